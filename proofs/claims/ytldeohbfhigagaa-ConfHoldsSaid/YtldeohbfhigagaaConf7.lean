/- What conf.Bounds answers, as a function of the Config; conf.Ok. -/
import Derived.Test.YtldeohbfhigagaaConf6
import Derived.Test.YtldeohbfhigagaaRw
set_option linter.unusedVariables false
set_option linter.unusedSimpArgs false
namespace Go.Proofs.Ytldeohbfhigagaa
open Go.RowKit Flo

open Classical in
/-- Part as a function -/
noncomputable def partF (n : Int) (f : Nat) : Int × Bool := if h : ∃ p : Int × Bool, PartIs n f p.1 p.2 then Classical.choose h else (0, false)
theorem PartIs.eqF {n : Int} {f : Nat} {k : Int} {o : Bool} (h : PartIs n f k o) : partF n f = (k, o) := by
  have he : ∃ p : Int × Bool, PartIs n f p.1 p.2 := ⟨(k, o), h⟩
  have hc := Classical.choose_spec he
  unfold partF
  rw [dif_pos he]
  obtain ⟨h1, h2⟩ := h.same hc
  exact Prod.ext h1.symm h2.symm
/-- the least power of two up to 2^17 that is not below k, from 2^i on -/
def lvF (k : Int) : Nat → Int → Int
  | 0, y => y
  | t + 1, y => if y < k ∧ y ≤ 65536 then lvF k t (y * 2) else y
theorem lvF_of {k : Int} (i j : Nat) (hl : ((2 ^ i : Nat) : Int) = 1 ∨ ((2 ^ i : Nat) : Int) < 2 * k) (hf : k ≤ ((2 ^ i : Nat) : Int) ∨ 65536 < ((2 ^ i : Nat) : Int)) (hi : i ≤ 17) (hj : j ≤ i) :
    lvF k (17 - j) ((2 ^ j : Nat) : Int) = ((2 ^ i : Nat) : Int) := by
  induction hn : i - j generalizing j with
  | zero =>
    obtain rfl : j = i := by omega
    cases h17 : 17 - j with
    | zero => rfl
    | succ t => unfold lvF; rw [if_neg (by omega)]
  | succ n ih =>
    obtain ⟨t, ht⟩ : ∃ t, 17 - j = t + 1 := ⟨16 - j, by omega⟩
    have h1 : 2 * 2 ^ j ≤ 2 ^ i := by rw [← Nat.pow_succ']; exact Nat.pow_le_pow_right (by decide) (by omega)
    have h2 := (pow_tbl j (by omega))
    have h3 := (pow_tbl i (by omega))
    rw [ht, lvF, if_pos (by constructor <;> omega)]
    have h4 : ((2 ^ j : Nat) : Int) * 2 = ((2 ^ (j + 1) : Nat) : Int) := by rw [Nat.pow_succ]; omega
    rw [h4, show t = 17 - (j + 1) by omega]
    exact ih (j + 1) (by omega) (by omega)
theorem LeavesIs.eqF {k y : Int} {pk b : Bool} (h : LeavesIs k pk y b) : y = lvF k 17 1 ∧ b = (pk && decide (lvF k 17 1 ≤ 65536)) := by
  obtain ⟨⟨i, hi, rfl⟩, hl, hf, hb⟩ := h
  have := lvF_of i 0 hl hf hi (by omega)
  simp only [Nat.sub_zero, Nat.pow_zero] at this
  rw [show ((1 : Nat) : Int) = 1 from rfl] at this
  exact ⟨this.symm, by rw [hb, this]⟩
/-- a Bounds -/
structure Bd where
  (g ml hf h nd lv bu ce re bl st ar bs : Int)
def Bd.arr (b : Bd) : Array Value := bA b.g b.ml b.hf b.h b.nd b.lv b.bu b.ce b.re b.bl b.st b.ar b.bs
def Bd.zero : Bd := ⟨0, 0, 0, 0, 0, 0, 0, 0, 0, 0, 0, 0, 0⟩
/-- a Config -/
structure Cfg where
  (k v c f m l n x z : Int)
  fl : Nat
def Cfg.nums (a : Cfg) : Bool := okNums a.k a.v a.c a.f a.m a.l a.n a.x a.z
def gF (a : Cfg) : Int := a.l + 1 - (a.l + a.c + 1) / 2
def mlF (a : Cfg) : Int := 1 + a.x / gF a
def halfF (a : Cfg) : Int := (a.f + 1) / 2
def nodesF (a : Cfg) : Int × Int := halve (halfF a) 600 (mlF a) (mlF a, 1)
noncomputable def lvsF (a : Cfg) : Int := lvF (partF (nodesF a).1 a.fl).1 17 1
noncomputable def bdOk (a : Cfg) : Bool := a.nums && ((partF (nodesF a).1 a.fl).2 && decide (lvsF a ≤ 65536))
def bdC (a : Cfg) (lv : Int) : Bd :=
  let nd := (nodesF a).1
  let bu := 2 * lv - 1
  let ce := nodeLong a.k a.v a.f a.m a.l
  let re := 1 + max (a.k + a.v + 5) (2 * a.k + 8)
  let bl := 22 + max (max (a.z * (8 + ce)) (12 + re)) 16
  let st := 12 * nd + 4 + nd * (8 + ce) + (bu + 7) / 8 + a.c * (a.k + a.v + 5) + 45
  let ar := (st + bl - 23) / (bl - 22)
  ⟨gF a, mlF a, halfF a, (nodesF a).2, nd, lv, bu, ce, re, bl, st, ar, 4 + 2 * ar + a.n + 2 * bu⟩
noncomputable def bdF (a : Cfg) : Bd := bdC a (lvsF a)
noncomputable def bdR (a : Cfg) : Bd := if bdOk a then bdF a else Bd.zero
theorem bndIs_eq {a : Cfg} {b : Bool} {g ml hf h nd lv bu ce re bl st ar bs : Int} (hb : BndIs a.k a.v a.c a.f a.m a.l a.n a.x a.z a.fl b g ml hf h nd lv bu ce re bl st ar bs) (hn : a.nums = true) :
    bdOk a = b ∧ (b = true → bdF a = ⟨g, ml, hf, h, nd, lv, bu, ce, re, bl, st, ar, bs⟩) := by
  obtain ⟨e1, e2, e3, e4, ⟨kk, pk, e5, e6⟩, e7, e8, e9, e10, e11, e12, e13⟩ := hb
  obtain ⟨l1, l2⟩ := e6.eqF
  have hg : gF a = g := e1.symm
  have hm : mlF a = ml := by unfold mlF; rw [hg]; exact e2.symm
  have hh : halfF a = hf := e3.symm
  have hnd : nodesF a = (nd, h) := by unfold nodesF; rw [hh, hm]; exact e4
  have hp : partF (nodesF a).1 a.fl = (kk, pk) := by rw [hnd]; exact e5.eqF
  have hlv : lvsF a = lv := by unfold lvsF; rw [hp]; exact l1.symm
  refine ⟨?_, fun _ => ?_⟩
  · unfold bdOk; rw [hn, hlv, hp, l2, l1]; simp
  · unfold bdF bdC
    simp only [hlv, hnd, hg, hm, hh]
    subst e7 e8 e9 e10 e11 e12 e13
    rfl
def Cfg.val (a : Cfg) : Value := .agg #[.int .i64 a.k, .int .i64 a.v, .int .i64 a.c, .int .i64 a.f, .int .i64 a.m, .int .i64 a.l, .int .i64 a.n, .int .i64 a.x, .int .i64 a.z, .float .f64 a.fl]
theorem c_bounds (a : Cfg) (w : World) (hf : W64 a.fl) :
    Calls Try.prog 37 #[.agg #[.int .i64 a.k, .int .i64 a.v, .int .i64 a.c, .int .i64 a.f, .int .i64 a.m, .int .i64 a.l, .int .i64 a.n, .int .i64 a.x, .int .i64 a.z, .float .f64 a.fl]] w fun e w' =>
      e = .returned (.tuple #[.agg (bdR a).arr, .bool (bdOk a)]) ∧ Below w.heap.size w w' := by
  cases hn : a.nums with
  | false =>
    refine (c_bounds0 a.k a.v a.c a.f a.m a.l a.n a.x a.z a.fl w hn).mono fun e w' ⟨he, hb⟩ => ⟨?_, hb⟩
    have h0 : bdOk a = false := by unfold bdOk; rw [hn]; rfl
    rw [he]; unfold bdR; rw [h0]; rfl
  | true =>
    refine (c_bounds1 a.k a.v a.c a.f a.m a.l a.n a.x a.z a.fl w hf hn).mono ?_
    rintro e w' ⟨b, g, ml, hf, h, nd, lv, bu, ce, re, bl, st, ar, bs, hb, hB, he⟩
    obtain ⟨h1, h2⟩ := bndIs_eq hb hn
    refine ⟨?_, hB⟩
    rw [he]; unfold bdR; rw [h1]
    cases b with
    | false => rfl
    | true => rw [if_pos rfl, h2 rfl]; rfl
theorem c_ok (a : Cfg) (w : World) (hf : W64 a.fl) :
    Calls Try.prog 36 #[.agg #[.int .i64 a.k, .int .i64 a.v, .int .i64 a.c, .int .i64 a.f, .int .i64 a.m, .int .i64 a.l, .int .i64 a.n, .int .i64 a.x, .int .i64 a.z, .float .f64 a.fl]] w fun e w' =>
      e = .returned (.bool (bdOk a)) ∧ Below w.heap.size w w' := by
  have hc := fun W => c_bounds a W hf
  generalize bdR a = b at hc
  generalize bdOk a = o at hc ⊢
  unfold Bd.arr bA at hc
  go_enter Try.func36, Try.ntmps36
  go_wp2_with (go_at_call 37; refine (hc _).mono ?_; rintro e w1 ⟨rfl, hb1⟩)
  go_ret
  exact ⟨rfl, below_alloc (below_two (below_alloc (Below.refl _ _) _) hb1) _⟩
/-- a Bounds of known leaves -/
theorem bd_of {a : Cfg} {k y : Int} (hn : a.nums = true) (hp : PartIs (nodesF a).1 a.fl k true) (hl : lvF k 17 1 = y) (hy : y ≤ 65536) : bdOk a = true ∧ bdR a = bdC a y := by
  have h1 : lvsF a = y := by unfold lvsF; rw [hp.eqF]; exact hl
  have h2 : bdOk a = true := by unfold bdOk; rw [hn, hp.eqF, h1]; simp [hy]
  exact ⟨h2, by unfold bdR bdF; rw [h2, h1]; rfl⟩
theorem bd_no {a : Cfg} {k : Int} (hp : PartIs (nodesF a).1 a.fl k false) : bdOk a = false ∧ bdR a = Bd.zero := by
  have h2 : bdOk a = false := by unfold bdOk; rw [hp.eqF]; simp
  exact ⟨h2, by unfold bdR; rw [h2]; rfl⟩
theorem bd_nums {a : Cfg} (h : a.nums = false) : bdOk a = false ∧ bdR a = Bd.zero := by
  have h2 : bdOk a = false := by unfold bdOk; rw [h]; simp
  exact ⟨h2, by unfold bdR; rw [h2]; rfl⟩
end Go.Proofs.Ytldeohbfhigagaa
