/- RingPower: the closure, and Try over it. -/
import Derived.Test.YtmdmhjcdaejlkaaRingF
import Derived.Test.YtmdmhjcdaejlkaaMat
set_option linter.unusedVariables false
set_option linter.unusedSimpArgs false
namespace Go.Proofs.Ytmdmhjcdaejlkaa
open Go.RowKit

variable {W : World} {base b nn g r g5 g11 g12 g13 : Nat} {D : Dk} {key : List UInt8}
theorem px2_tryOk {K : FuncId} {caps : Array Value} {X : List Nat} {R : World → Prop} (hcf : ∀ w, (callFunc K caps).run Try.prog w = .ok (.enter K caps) w) (hle : base ≤ W.heap.size) (hX : ∀ x ∈ X, x < W.heap.size)
    (hRs : ∀ w v, Row w W.heap.size #[.bool false] 4 → R w → R (w.setCell ⟨W.heap.size, 0, none⟩ v))
    (hc : ∀ W0, Below W.heap.size W W0 → Calls Try.prog K caps W0 fun e w' => e = .returned (.tuple #[]) ∧ PX X base W0 w' ∧ R w') :
    Calls Try.prog 44 #[.func (Fn.func K) #[] caps] W fun e w' => e = .returned (.bool true) ∧ PX X base W w' ∧ R w' := by
  have hb0 := below_alloc (Below.refl W.heap.size W) (.cells #[.bool false] 4)
  have hr0 : Row (W.alloc (.cells #[.bool false] 4)) W.heap.size #[.bool false] 4 := Row.new _ _ _
  have hnX : W.heap.size ∉ X := fun hx => Nat.lt_irrefl _ (hX _ hx)
  refine (c_tryOk W (fun w => PX X base (W.alloc (.cells #[.bool false] 4)) w ∧ R w) hcf ((hc _ hb0).mono ?_)).mono ?_
  · rintro e w' ⟨rfl, hp, hr⟩
    exact ⟨rfl, hp.2 _ _ _ hr0 (by decide) hnX, hp, hr⟩
  · rintro e w' ⟨rfl, w1, ⟨hp, hR⟩, hr, rfl⟩
    refine ⟨rfl, ⟨((hb0.mono hle).trans hp.1).setCell (p := ⟨W.heap.size, 0, none⟩) hle _, fun k c T hk hT hkX => ?_⟩, hRs _ _ hr hR⟩
    exact (hp.2 k c T (hk.alloc _) hT hkX).set_other 0 _ (by have := hk.lt; omega)
theorem px2_tryGone {K : FuncId} {caps : Array Value} {X : List Nat} {R : World → Prop} (hcf : ∀ w, (callFunc K caps).run Try.prog w = .ok (.enter K caps) w) (hle : base ≤ W.heap.size) (hX : ∀ x ∈ X, x < W.heap.size)
    (hRs : ∀ w v, base ≤ w.heap.size → Row w W.heap.size #[.bool false] 4 → R w → R ((w.alloc (.cells #[] 112)).setCell ⟨W.heap.size, 0, none⟩ v))
    (hc : ∀ W0, Below W.heap.size W W0 → Calls Try.prog K caps W0 fun e w' => e = gonePanic ∧ PX X base W0 w' ∧ R w') :
    Calls Try.prog 44 #[.func (Fn.func K) #[] caps] W fun e w' => e = .returned (.bool false) ∧ PX X base W w' ∧ R w' := by
  have hb0 := below_alloc (Below.refl W.heap.size W) (.cells #[.bool false] 4)
  have hr0 : Row (W.alloc (.cells #[.bool false] 4)) W.heap.size #[.bool false] 4 := Row.new _ _ _
  have hnX : W.heap.size ∉ X := fun hx => Nat.lt_irrefl _ (hX _ hx)
  refine (c_tryGone W (fun w => PX X base (W.alloc (.cells #[.bool false] 4)) w ∧ R w) hcf ((hc _ hb0).mono ?_)).mono ?_
  · rintro e w' ⟨rfl, hp, hr⟩
    exact ⟨rfl, hp.2 _ _ _ hr0 (by decide) hnX, hp, hr⟩
  · rintro e w' ⟨rfl, w1, ⟨hp, hR⟩, hr, rfl⟩
    have hle1 : base ≤ w1.heap.size := Nat.le_trans (Nat.le_trans hle hb0.size) hp.1.size
    refine ⟨rfl, ⟨(((hb0.mono hle).trans hp.1).alloc hle1 _).setCell (p := ⟨W.heap.size, 0, none⟩) hle _, fun k c T hk hT hkX => ?_⟩, hRs _ _ hle1 hr hR⟩
    exact ((hp.2 k c T (hk.alloc _) hT hkX).alloc _).set_other 0 _ (by have := hk.lt; omega)
/-- what the closure keeps: n records were added, 'all' has L -/
structure Cl (w : World) (base B b nn g r g12 g13 : Nat) (key : List UInt8) (D : Dk) (q n : Nat) (L : List (List UInt8)) : Prop where
  dv : In w base b D nn
  pn : PenAt w g b key 1 q
  rg : RingAt w r g 2 16 7 n
  n12 : Row w g12 #[.int .i64 (n : Int)] 3
  al : ∃ v, Row w g13 #[v] 40 ∧ HaveM w base B v L
theorem HaveM.set {W : World} {base B g j : Nat} {v u : Value} {xss : List (List UInt8)} {c : Array Value} {T : TypeId} (h : HaveM W base B v xss) (hr : Row W g c T) (hT : T ≠ 24) (hg : base ≤ g) : HaveM (W.setCell ⟨g, j, none⟩ u) base B v xss :=
  h.px (PX.set (X := [g]) hg (by simp)) (fun x hx => by simp only [List.mem_singleton] at hx; subst hx; exact ⟨c, T, hr, hT⟩)
theorem Cl.setB {w : World} {B k q n : Nat} {L : List (List UInt8)} (h : Cl w base B b nn g r g12 g13 key D q n L) (hk : base ≤ k) (hr : Row w k #[.bool false] 4) (v : Value) : Cl (w.setCell ⟨k, 0, none⟩ v) base B b nn g r g12 g13 key D q n L := by
  have hne : ∀ {g' c T}, Row w g' c T → T ≠ 4 → g' ≠ k := fun h1 hT e => by subst e; exact hT (row_type h1 hr)
  obtain ⟨va, h1, h2⟩ := h.al
  exact ⟨h.dv.set hr _ (by decide) hk, h.pn.set v (hne h.pn.row (by decide)), ⟨h.rg.row.set_other 0 v (hne h.rg.row (by decide))⟩, h.n12.set_other 0 v (hne h.n12 (by decide)), va, h1.set_other 0 v (hne h1 (by decide)), h2.set hr (by decide) hk⟩
theorem Cl.below {w w' : World} {B q n : Nat} {L : List (List UInt8)} (h : Cl w base B b nn g r g12 g13 key D q n L) (hb : Below w.heap.size w w') : Cl w' base B b nn g r g12 g13 key D q n L := by
  obtain ⟨va, h1, h2⟩ := h.al
  exact ⟨h.dv.below hb, h.pn.below hb h.pn.lt, h.rg.below hb h.rg.lt, h.n12.below hb h.n12.lt, va, h1.below hb h1.lt, h2.below hb h.dv.le⟩
/-- what the closure leaves, done or not -/
def Out (base B b nn g r g12 g13 : Nat) (key : List UInt8) (ok : Bool) (w : World) : Prop := ∃ (n q : Nat) (D' : Dk) (La : List (List UInt8)), n ≤ 16 ∧ Cl w base B b nn g r g12 g13 key D' q n La ∧ LooseT D' ∧
  ∀ ch, FairOk key D' ch → ∃ L' t, Rg key (D'.crash ch) L' ∧ La = L' ++ t ∧ L'.length ≤ 16 ∧ (L'.length = n ∨ (ok = false ∧ L'.length = n + 1))
def endOf (ok : Bool) : Ending := if ok = true then .returned (.tuple #[]) else gonePanic
set_option maxHeartbeats 8000000 in
set_option maxRecDepth 100000 in
theorem c_rpow {w : World} {B l1 c1 : Nat} {A1 : Option Addr} {xss : List (List UInt8)} (hM : Mat w A1 l1 xss) (hwb : w.heap.size ≤ base) (hWw : Below w.heap.size w W) (ok : Bool) (c m : Nat) (hm : min l1 16 = m) (hcm : if ok = true then 2 * m ≤ c else c < 2 * m)
    (hRg : Rg key D []) (haf : AfS D (c : Int)) (hC : Cl W base B b nn g r g12 g13 key D 0 0 []) (r5 : Row W g5 #[.slice A1 l1 c1] 40) (r11 : Row W g11 #[.pointer (some ⟨r, 0, none⟩)] 59) (hn : nn ≤ 600000) (hgb : base ≤ g) (hrb : base ≤ r) (h12 : base ≤ g12) (h13 : base ≤ g13) (hB : base ≤ B) (hBe : B = W.heap.size) (h513 : g5 ≠ g13) :
    Calls Try.prog 56 #[.pointer (some ⟨g5, 0, none⟩), .pointer (some ⟨g13, 0, none⟩), .pointer (some ⟨g11, 0, none⟩), .pointer (some ⟨g12, 0, none⟩)] W fun e w' => e = endOf ok ∧ PX [g, r, g12, g13] base W w' ∧ Out base B b (nn + 40) g r g12 g13 key ok w' := by
  have hBW : B ≤ W.heap.size := by omega
  have hWB : W.heap.size ≤ B := by omega
  clear hBe
  have HM := Lib.hid hM
  have HCM := Lib.hid hcm
  have hm16 : m ≤ 16 := by omega
  have hml : m ≤ l1 := by omega
  have HMM := Lib.hid hm
  clear hM hcm hm
  have h5X : g5 ∉ [g, r, g12, g13] := by
    obtain ⟨va, h1, -⟩ := hC.al
    simp only [List.mem_cons, List.not_mem_nil, or_false, not_or]
    exact ⟨fun e => by subst e; exact absurd (row_type r5 hC.pn.row) (by decide), fun e => by subst e; exact absurd (row_type r5 hC.rg.row) (by decide), fun e => by subst e; exact absurd (row_type r5 hC.n12) (by decide), h513⟩
  have h11X : g11 ∉ [g, r, g12, g13] := by
    obtain ⟨va, h1, -⟩ := hC.al
    simp only [List.mem_cons, List.not_mem_nil, or_false, not_or]
    exact ⟨fun e => by subst e; exact absurd (row_type r11 hC.pn.row) (by decide), fun e => by subst e; exact absurd (row_type r11 hC.rg.row) (by decide), fun e => by subst e; exact absurd (row_type r11 hC.n12) (by decide), fun e => by subst e; exact absurd (row_type r11 h1) (by decide)⟩
  go_enter Try.func56, Try.ntmps56
  go_wp2_with fail
  go_loopw [4] (fun s4 wr => ∃ (n : Nat) (D2 : Dk) (L : List (List UInt8)), n ≤ m ∧ 2 * n ≤ c ∧ L.length = n ∧ s4 = .int .i64 (n : Int) ∧ Rg key D2 L ∧ AfS D2 ((c : Int) - 2 * (n : Int)) ∧ Cl wr base B b (nn + 2 * n) g r g12 g13 key D2 n n L ∧ PX [g, r, g12, g13] base W wr) (fun s4 _ => (m - intOf s4).toNat)
  case atStart => exact ⟨0, D, [], by omega, by omega, rfl, rfl, hRg, by simpa using haf, hC, PX.of_below (Below.refl _ _) hC.dv.le⟩
  case round =>
    obtain ⟨n, D2, L, hnm, hnc, hLn, rfl, hRg2, haf2, hC2, hpx⟩ := hrel
    have hBW2 : B ≤ wr.heap.size := Nat.le_trans hBW hpx.1.size
    have hBr : Below w.heap.size w wr := hWw.trans (hpx.1.mono hwb)
    have q5 : Row wr g5 #[.slice A1 l1 c1] 40 := hpx.2 _ _ _ r5 (by decide) h5X
    have q11 : Row wr g11 #[.pointer (some ⟨r, 0, none⟩)] 59 := hpx.2 _ _ _ r11 (by decide) h11X
    have k5 : wr.cell? ⟨g5, 0, none⟩ = some (.slice A1 l1 c1) := q5.cell 0 rfl
    by_cases hend : n < m
    · have hn1 : (n : Int) < (l1 : Int) := by omega
      have hn16 : (n : Int) < 16 := by omega
      obtain ⟨xs, hxs⟩ : ∃ xs, xss[n]? = some xs := ⟨_, List.getElem?_eq_getElem (by have := HM.out.1; omega)⟩
      obtain ⟨ad0, v0, rfl, hc0, hx0⟩ := HM.out.2 n xs hxs
      obtain ⟨Ax, cx, rfl, hxc, -, hxr, -⟩ := hx0
      have hadl0 : (ad0.add n).block < w.heap.size := World.block_lt_of_cell? w _ hc0
      have kx : wr.cell? (ad0.add n) = some (.slice Ax xs.length cx) := (hBr.cell hadl0).trans hc0
      obtain ⟨m', hm'⟩ : ∃ m', min xs.length 46 = m' := ⟨_, rfl⟩
      have hmi : (if (46 : Int) < (xs.length : Int) then (46 : Int) else (xs.length : Int)) = (m' : Int) := by split <;> omega
      have hmn : (if 46 < xs.length then (46 : Int) else (xs.length : Int)) = (m' : Int) := by split <;> omega
      obtain ⟨A', e1, hrx⟩ := cut_to hxr hxc (m' : Int) m' rfl (by omega)
      have hlowx : ∀ ad, A' = some ad → 0 < m' → ad.block < base := fun ad e h0 => by subst e; exact Nat.lt_of_lt_of_le (Rd.block_lt hrx h0) hwb
      have hm46 : m' ≤ 46 := by omega
      have hml' : m' ≤ xs.length := by omega
      have hxl : (xs.take m').length = m' := by rw [List.length_take]; omega
      have hgl : n ≤ 1000000 := by omega
      obtain ⟨va, r13w, hHw⟩ := hC2.al
      obtain ⟨A5, c5, rfl⟩ := hHw.form
      rw [hLn] at r13w hHw
      have hL1 : L.length ≤ 1000000 := by omega
      have HXL := Lib.hid hxl
      have HLN := Lib.hid hLn
      have k5d : wr.drew.cell? ⟨g5, 0, none⟩ = some (.slice (some ad0) l1 c1) := k5
      have kxd : wr.drew.cell? (ad0.add n) = some (.slice Ax xs.length cx) := kx
      have hn0 : (0 : Int) ≤ (n : Int) := by omega
      clear hm' hxs
      generalize xs.take m' = x at *
      generalize xs.length = xl at *
      go_upto_region 3 with fail
      (refine wp_region_linN (KpP) (KpP) (wayKpP) (wayKpP) (fun _ _ h => h) (.hot 0 (.free 1 (.free 2 (.hot 3 (.hot 4 (.free 5 (.free 6 (.hot 7 (.free 8 (.free 9 (.free 10 (.free 11 .nil)))))))))))) rfl (by kernel_rfl) (by kernel_rfl) (fun _ _ _ _ _ h => h) ?_; (first | (apply linN_hot; (simp only [List.getElem?_toArray, List.getElem?_cons_succ, List.getElem?_cons_zero]; rfl); (rfl); (intro w' hb'; (try have k_k5d := kpP_cell hb' k5d); (try have k_kxd := kpP_cell hb' kxd); (first | (go_simp; done) | (go_simp; with_reducible rfl) | (go_simp; go_bits; with_reducible rfl) | (go_simp; go_bits; done))); try simp only [Act.put, List.setIfInBounds_toArray, List.set_cons_zero, List.set_cons_succ]) | (apply linN_hotSkip; (simp only [List.getElem?_toArray, List.getElem?_cons_succ, List.getElem?_cons_zero]; rfl); (rfl); try simp only [Act.put, List.setIfInBounds_toArray, List.set_cons_zero, List.set_cons_succ])); (first | (apply linN_free; (simp only [List.getElem?_toArray, List.getElem?_cons_succ, List.getElem?_cons_zero]; rfl); (rfl); (intro w'; (first | (go_simp; done) | (go_simp; with_reducible rfl) | (go_simp; go_bits; with_reducible rfl) | (go_simp; go_bits; done))); try simp only [Act.put, List.setIfInBounds_toArray, List.set_cons_zero, List.set_cons_succ]) | (apply linN_freeSkip; (simp only [List.getElem?_toArray, List.getElem?_cons_succ, List.getElem?_cons_zero]; rfl); (rfl); try simp only [Act.put, List.setIfInBounds_toArray, List.set_cons_zero, List.set_cons_succ])); (first | (apply linN_free; (simp only [List.getElem?_toArray, List.getElem?_cons_succ, List.getElem?_cons_zero]; rfl); (rfl); (intro w'; (first | (go_simp; done) | (go_simp; with_reducible rfl) | (go_simp; go_bits; with_reducible rfl) | (go_simp; go_bits; done))); try simp only [Act.put, List.setIfInBounds_toArray, List.set_cons_zero, List.set_cons_succ]) | (apply linN_freeSkip; (simp only [List.getElem?_toArray, List.getElem?_cons_succ, List.getElem?_cons_zero]; rfl); (rfl); try simp only [Act.put, List.setIfInBounds_toArray, List.set_cons_zero, List.set_cons_succ])); (first | (apply linN_hot; (simp only [List.getElem?_toArray, List.getElem?_cons_succ, List.getElem?_cons_zero]; rfl); (rfl); (intro w' hb'; (try have k_k5d := kpP_cell hb' k5d); (try have k_kxd := kpP_cell hb' kxd); (first | (go_simp; done) | (go_simp; with_reducible rfl) | (go_simp; go_bits; with_reducible rfl) | (go_simp; go_bits; done))); try simp only [Act.put, List.setIfInBounds_toArray, List.set_cons_zero, List.set_cons_succ]) | (apply linN_hotSkip; (simp only [List.getElem?_toArray, List.getElem?_cons_succ, List.getElem?_cons_zero]; rfl); (rfl); try simp only [Act.put, List.setIfInBounds_toArray, List.set_cons_zero, List.set_cons_succ])); (first | (apply linN_hot; (simp only [List.getElem?_toArray, List.getElem?_cons_succ, List.getElem?_cons_zero]; rfl); (rfl); (intro w' hb'; (try have k_k5d := kpP_cell hb' k5d); (try have k_kxd := kpP_cell hb' kxd); (first | (go_simp; done) | (go_simp; with_reducible rfl) | (go_simp; go_bits; with_reducible rfl) | (go_simp; go_bits; done))); try simp only [Act.put, List.setIfInBounds_toArray, List.set_cons_zero, List.set_cons_succ]) | (apply linN_hotSkip; (simp only [List.getElem?_toArray, List.getElem?_cons_succ, List.getElem?_cons_zero]; rfl); (rfl); try simp only [Act.put, List.setIfInBounds_toArray, List.set_cons_zero, List.set_cons_succ])); (first | (apply linN_free; (simp only [List.getElem?_toArray, List.getElem?_cons_succ, List.getElem?_cons_zero]; rfl); (rfl); (intro w'; (first | (go_simp; done) | (go_simp; with_reducible rfl) | (go_simp; go_bits; with_reducible rfl) | (go_simp; go_bits; done))); try simp only [Act.put, List.setIfInBounds_toArray, List.set_cons_zero, List.set_cons_succ]) | (apply linN_freeSkip; (simp only [List.getElem?_toArray, List.getElem?_cons_succ, List.getElem?_cons_zero]; rfl); (rfl); try simp only [Act.put, List.setIfInBounds_toArray, List.set_cons_zero, List.set_cons_succ])); (first | (apply linN_free; (simp only [List.getElem?_toArray, List.getElem?_cons_succ, List.getElem?_cons_zero]; rfl); (rfl); (intro w'; (first | (go_simp; done) | (go_simp; with_reducible rfl) | (go_simp; go_bits; with_reducible rfl) | (go_simp; go_bits; done))); try simp only [Act.put, List.setIfInBounds_toArray, List.set_cons_zero, List.set_cons_succ]) | (apply linN_freeSkip; (simp only [List.getElem?_toArray, List.getElem?_cons_succ, List.getElem?_cons_zero]; rfl); (rfl); try simp only [Act.put, List.setIfInBounds_toArray, List.set_cons_zero, List.set_cons_succ])); (first | (apply linN_hot; (simp only [List.getElem?_toArray, List.getElem?_cons_succ, List.getElem?_cons_zero]; rfl); (rfl); (intro w' hb'; (try have k_k5d := kpP_cell hb' k5d); (try have k_kxd := kpP_cell hb' kxd); (first | (go_simp; done) | (go_simp; with_reducible rfl) | (go_simp; go_bits; with_reducible rfl) | (go_simp; go_bits; done))); try simp only [Act.put, List.setIfInBounds_toArray, List.set_cons_zero, List.set_cons_succ]) | (apply linN_hotSkip; (simp only [List.getElem?_toArray, List.getElem?_cons_succ, List.getElem?_cons_zero]; rfl); (rfl); try simp only [Act.put, List.setIfInBounds_toArray, List.set_cons_zero, List.set_cons_succ])); (first | (apply linN_free; (simp only [List.getElem?_toArray, List.getElem?_cons_succ, List.getElem?_cons_zero]; rfl); (rfl); (intro w'; (first | (go_simp; done) | (go_simp; with_reducible rfl) | (go_simp; go_bits; with_reducible rfl) | (go_simp; go_bits; done))); try simp only [Act.put, List.setIfInBounds_toArray, List.set_cons_zero, List.set_cons_succ]) | (apply linN_freeSkip; (simp only [List.getElem?_toArray, List.getElem?_cons_succ, List.getElem?_cons_zero]; rfl); (rfl); try simp only [Act.put, List.setIfInBounds_toArray, List.set_cons_zero, List.set_cons_succ])); (first | (apply linN_free; (simp only [List.getElem?_toArray, List.getElem?_cons_succ, List.getElem?_cons_zero]; rfl); (rfl); (intro w'; (first | (go_simp; done) | (go_simp; with_reducible rfl) | (go_simp; go_bits; with_reducible rfl) | (go_simp; go_bits; done))); try simp only [Act.put, List.setIfInBounds_toArray, List.set_cons_zero, List.set_cons_succ]) | (apply linN_freeSkip; (simp only [List.getElem?_toArray, List.getElem?_cons_succ, List.getElem?_cons_zero]; rfl); (rfl); try simp only [Act.put, List.setIfInBounds_toArray, List.set_cons_zero, List.set_cons_succ])); (first | (apply linN_free; (simp only [List.getElem?_toArray, List.getElem?_cons_succ, List.getElem?_cons_zero]; rfl); (rfl); (intro w'; (first | (go_simp; done) | (go_simp; with_reducible rfl) | (go_simp; go_bits; with_reducible rfl) | (go_simp; go_bits; done))); try simp only [Act.put, List.setIfInBounds_toArray, List.set_cons_zero, List.set_cons_succ]) | (apply linN_freeSkip; (simp only [List.getElem?_toArray, List.getElem?_cons_succ, List.getElem?_cons_zero]; rfl); (rfl); try simp only [Act.put, List.setIfInBounds_toArray, List.set_cons_zero, List.set_cons_succ])); (first | (apply linN_free; (simp only [List.getElem?_toArray, List.getElem?_cons_succ, List.getElem?_cons_zero]; rfl); (rfl); (intro w'; (first | (go_simp; done) | (go_simp; with_reducible rfl) | (go_simp; go_bits; with_reducible rfl) | (go_simp; go_bits; done))); try simp only [Act.put, List.setIfInBounds_toArray, List.set_cons_zero, List.set_cons_succ]) | (apply linN_freeSkip; (simp only [List.getElem?_toArray, List.getElem?_cons_succ, List.getElem?_cons_zero]; rfl); (rfl); try simp only [Act.put, List.setIfInBounds_toArray, List.set_cons_zero, List.set_cons_succ])); refine linN_end ?_)
      have hBd : Below w.heap.size w wr.drew := below_drew hBr
      have r13 : Row wr.drew g13 #[.slice A5 n c5] 40 := r13w
      have k13w := r13.cell 0 rfl
      have hHr : HaveM wr.drew base B (.slice A5 n c5) L := hHw.below (below_drew (Below.refl _ _)) hC2.dv.le
      have hlow : LowAt wr.drew base (.slice A' m' cx) x := ⟨A', cx, by rw [HXL.out], by rw [HXL.out]; omega, by rw [HXL.out]; exact hrx.below hBd (Nat.le_refl _), by rw [HXL.out]; exact hlowx⟩
      have hBb := hB
      have hC3 := hC2.below (below_drew (Below.refl wr.heap.size wr))
      have q5d : Row wr.drew g5 #[.slice (some ad0) l1 c1] 40 := q5
      have q11d : Row wr.drew g11 #[.pointer (some ⟨r, 0, none⟩)] 59 := q11
      have hBWd : B ≤ wr.drew.heap.size := hBW2
      have hpxd : PX [g, r, g12, g13] base W wr.drew := hpx.trans (PX.of_below (below_drew (Below.refl _ _)) hC2.dv.le)
      clear k5d kxd k5 kx hBr hpx hC2 q5 q11 r13w hHw e1 hmi hmn
      generalize wr.drew = wd at *
      have hBW := hBWd
      go_upto_region 5 with (first | (at_builtin; refine wpl_pushH (B := B) (base := base) rfl rfl hHr hlow rfl rfl hBW hBb (by omega) ?_; intro v7 w7 hH7 hf7 hb7; (have q13 : Row w7 g13 #[.slice A5 n c5] 40 := hf7.row r13 (by decide)); (have k13 := q13.cell 0 rfl); (have z13 := q13.free 0); (obtain ⟨A7, c7, rfl⟩ := hH7.form); try simp only [Act.put]))
      have hlen7 : (L ++ [x]).length = n + 1 := by rw [List.length_append, HLN.out]; rfl
      rw [hlen7] at hH7
      obtain ⟨n1, hn1'⟩ : ∃ n1, n + 1 = n1 := ⟨_, rfl⟩
      have hne13 : ∀ {g' cc T}, Row w7 g' cc T → T ≠ 40 → g' ≠ g13 := fun h1 hT e => by subst e; exact hT (row_type h1 q13)
      have hIa := (hC3.dv.frT2 hf7 (by decide)).set (j := 0) q13 (.slice A7 (n + 1) c7) (by decide) h13
      have hPa7 : PenAt w7 g b key 1 n := ⟨hf7.row hC3.pn.row (by decide), hC3.pn.kl, hC3.pn.bl⟩
      have hRa7 : RingAt w7 r g 2 16 7 n := ⟨hf7.row hC3.rg.row (by decide)⟩
      have h12a := hf7.row hC3.n12 (by decide)
      have h11a := hf7.row q11d (by decide)
      have hPa := hPa7.set (j := 0) (.slice A7 (n + 1) c7) (hne13 hPa7.row (by decide))
      have hRa : RingAt (w7.setCell ⟨g13, 0, none⟩ (.slice A7 (n + 1) c7)) r g 2 16 7 n := ⟨hRa7.row.set_other 0 _ (hne13 hRa7.row (by decide))⟩
      have h12b := h12a.set_other 0 (.slice A7 (n + 1) c7) (hne13 h12a (by decide))
      have h11b := h11a.set_other 0 (.slice A7 (n + 1) c7) (hne13 h11a (by decide))
      have h13b := q13.set 0 (.slice A7 (n + 1) c7)
      have hHb := hH7.set (j := 0) (u := .slice A7 (n + 1) c7) q13 (by decide) h13
      have hpxb : PX [g, r, g12, g13] base W (w7.setCell ⟨g13, 0, none⟩ (.slice A7 (n + 1) c7)) := (hpxd.step hf7.dr.below (fun k hk => hb7.block k (by omega))).trans (PX.set h13 (by simp))
      have hwb2 : Below w.heap.size w (w7.setCell ⟨g13, 0, none⟩ (.slice A7 (n + 1) c7)) := hWw.trans (hpxb.1.mono hwb)
      simp only [List.setIfInBounds_toArray, List.set_cons_zero] at h13b
      have hrg : r ≠ g := fun e => by subst e; exact absurd (row_type hRa.row hPa.row) (by decide)
      have h12g : g12 ∉ [g, r] := by
        simp only [List.mem_cons, List.not_mem_nil, or_false, not_or]
        exact ⟨fun e => by subst e; exact absurd (row_type h12b hPa.row) (by decide), fun e => by subst e; exact absurd (row_type h12b hRa.row) (by decide)⟩
      have h13g : g13 ∉ [g, r] := by
        simp only [List.mem_cons, List.not_mem_nil, or_false, not_or]
        exact ⟨fun e => by subst e; exact absurd (row_type h13b hPa.row) (by decide), fun e => by subst e; exact absurd (row_type h13b hRa.row) (by decide)⟩
      have hgr : ∀ y ∈ [g, r], ∃ cc T, Row (w7.setCell ⟨g13, 0, none⟩ (.slice A7 (n + 1) c7)) y cc T ∧ T ≠ 24 := by
        intro y hy
        simp only [List.mem_cons, List.not_mem_nil, or_false] at hy
        rcases hy with rfl | rfl
        · exact ⟨_, _, hPa.row, by decide⟩
        · exact ⟨_, _, hRa.row, by decide⟩
      clear hC3 r13 k13w hHr hlow q5d q11d hBWd hpxd hf7 hb7 q13 k13 z13 hPa7 hRa7 h12a h11a hne13 hBd hH7
      generalize w7.setCell ⟨g13, 0, none⟩ (.slice A7 (n + 1) c7) = w8 at *
      have hrx8 : RdB w8 A' m' x := hrx.below hwb2 (Nat.le_refl _)
      have k11 : w8.cell? ⟨g11, 0, none⟩ = some (.pointer (some ⟨r, 0, none⟩)) := h11b.cell 0 rfl
      have hfit : fitsB (12 + m') D2.size = true := by rw [hRg2.sz, fitsB_iff]; omega
      have hxle : x.length ≤ 46 := by omega
      have hpxg : PX [g, r, g12, g13] base W w8 := hpxb
      by_cases ha0 : c = 2 * n
      · have hok : ok = false := by
          cases ok with
          | false => rfl
          | true => have := HCM.out; simp at this; omega
        subst hok
        have hgo : D2.goes = true := by rw [show (c : Int) - 2 * (n : Int) = 0 by omega] at haf2; exact haf2.yes
        have HAD := Lib.hid (c_addNo1 hRa hPa hIa (by omega) hrb hgb hrg (by omega) (by decide) (by decide) hgo A' m' cx x hrx8 (by omega) (by omega) hfit)
        go_wp2_with fail
        refine HAD.out.mono ?_
        rintro e w9 ⟨rfl, hI9, hP9, hR9, hp9⟩
        refine ⟨rfl, rfl, hpxg.trans (hp9.less (by simp)), n, n + 1, D2.dead, L ++ [x], by omega, ⟨hI9.monoR (by omega), hP9, hR9, hp9.2 _ _ _ h12b (by decide) h12g, _, hp9.2 _ _ _ h13b (by decide) h13g, hHb.px hp9 hgr⟩, hRg2.dead.lt, fun ch hf => ⟨L, [x], hRg2.dead.crash ch, rfl, by omega, .inl HLN.out⟩⟩
      · have hgo := haf2.no (show (c : Int) - 2 * (n : Int) ≠ 0 by omega)
        have haw : AfS (addWr D2 key 1 n 2 n 7 x) ((c : Int) - 2 * (n : Int) - 1) := by
          have := haf2.write ((2 + n : Nat) : Int) (sealL key 1 n (rhL 7 n ++ x) D2.size.toNat)
          rw [if_pos (by omega)] at this
          exact this
        by_cases ha1 : c = 2 * n + 1
        · have hok : ok = false := by
            cases ok with
            | false => rfl
            | true => have := HCM.out; simp at this; omega
          subst hok
          have hgo2 : (addWr D2 key 1 n 2 n 7 x).goes = true := by rw [show (c : Int) - 2 * (n : Int) - 1 = 0 by omega] at haw; exact haw.yes
          have HAD := Lib.hid (c_addNo2 hRa hPa hIa (by omega) hrb hgb hrg (by omega) (by decide) (by decide) hgo A' m' cx x hrx8 (by omega) (by omega) hfit hgo2)
          have hlo := fun ch hf => hRg2.loose (ch := ch) (by omega) (boot := 1) (seq := n) hxle hf
          rw [HLN.out] at hlo
          go_wp2_with fail
          refine HAD.out.mono ?_
          rintro e w9 ⟨rfl, hI9, hP9, hR9, hp9⟩
          refine ⟨rfl, rfl, hpxg.trans (hp9.less (by simp)), n, n + 1, _, L ++ [x], by omega, ⟨hI9.monoR (by omega), hP9, hR9, hp9.2 _ _ _ h12b (by decide) h12g, _, hp9.2 _ _ _ h13b (by decide) h13g, hHb.px hp9 hgr⟩, (hRg2.lt.write _ _).dead, fun ch hf => ?_⟩
          rcases hlo ch hf with q | q
          · exact ⟨L ++ [x], [], q, by simp, by simp; omega, .inr ⟨rfl, by simp; omega⟩⟩
          · exact ⟨L, [x], q, rfl, by omega, .inl HLN.out⟩
        · have hgo2 := haw.no (show (c : Int) - 2 * (n : Int) - 1 ≠ 0 by omega)
          have had := c_addA hRa hPa hIa (by omega) hrb hgb hrg (by omega) (by decide) (by decide) hgo A' m' cx x hrx8 (by omega) (by omega) true hfit (fun _ => hgo2)
          simp only [if_true] at had
          have HAD := Lib.hid had
          have hRg3 := hRg2.add (by omega) (boot := 1) (seq := n) hxle
          rw [HLN.out] at hRg3
          have haf3 : AfS (addWr D2 key 1 n 2 n 7 x).flush ((c : Int) - 2 * (n1 : Int)) := ⟨rfl, by
            show (if 0 < (addWr D2 key 1 n 2 n 7 x).after then (addWr D2 key 1 n 2 n 7 x).after - 1 else (addWr D2 key 1 n 2 n 7 x).after) = _
            rw [haw.af]; split <;> omega⟩
          clear had
          generalize (addWr D2 key 1 n 2 n 7 x).flush = D3 at *
          go_upto_region 6 with (go_at_call 38; (with_reducible refine HAD.out.mono ?_); rintro y w9 ⟨rfl, hI9, hP9, hR9, hp9⟩)
          have h12c := hp9.2 _ _ _ h12b (by decide) h12g
          have h13c := hp9.2 _ _ _ h13b (by decide) h13g
          have hHc := hHb.px hp9 hgr
          have hpxc := hpxg.trans (hp9.less (Y := [g, r, g12, g13]) (by simp))
          have k12 : w9.cell? ⟨g12, 0, none⟩ = some (.int .i64 (n : Int)) := h12c.cell 0 rfl
          have z12 := h12c.free 0
          have hni : (n : Int) + 1 = (n1 : Int) := by omega
          have hnw : IntKind.i64.wrap (n1 : Int) = (n1 : Int) := IntWalk.i64_in _ (by omega)
          rw [hn1'] at hP9 hR9 h13c hHc
          have hne : ∀ {g' cc T}, Row w9 g' cc T → T ≠ 3 → g' ≠ g12 := fun h1 hT e => by subst e; exact hT (row_type h1 h12c)
          have hId := hI9.set (j := 0) h12c (.int .i64 (n1 : Int)) (by decide) h12
          have hPd := hP9.set (j := 0) (.int .i64 (n1 : Int)) (hne hP9.row (by decide))
          have hRd : RingAt (w9.setCell ⟨g12, 0, none⟩ (.int .i64 (n1 : Int))) r g 2 16 7 n1 := ⟨hR9.row.set_other 0 _ (hne hR9.row (by decide))⟩
          have h12d := h12c.set 0 (.int .i64 (n1 : Int))
          simp only [List.setIfInBounds_toArray, List.set_cons_zero] at h12d
          have h13d := h13c.set_other 0 (.int .i64 (n1 : Int)) (hne h13c (by decide))
          have hHd := hHc.set (j := 0) (u := .int .i64 (n1 : Int)) h12c (by decide) h12
          have hpxe := hpxc.trans (PX.set (X := [g, r, g12, g13]) (j := 0) (v := .int .i64 (n1 : Int)) h12 (by simp))
          have H := Lib.hid (And.intro hId (And.intro hPd (And.intro hRd (And.intro h12d (And.intro h13d (And.intro hHd hpxe))))))
          have hn1m : n1 ≤ m := by omega
          have hn1c : 2 * n1 ≤ c := by omega
          have hlL : (L ++ [x]).length = n1 := by rw [List.length_append, HLN.out]; exact hn1'
          clear hId hPd hRd h12d h13d hHd hpxe hI9 hP9 hR9 hp9 h12c h13c hHc hpxc HAD hne
          go_wp2_with fail
          go_roundw
          case rel => exact ⟨n1, D3, L ++ [x], hn1m, hn1c, hlL, rfl, hRg3, haf3, ⟨H.out.1.monoR (by omega), H.out.2.1, H.out.2.2.1, H.out.2.2.2.1, _, H.out.2.2.2.2.1, H.out.2.2.2.2.2.1⟩, H.out.2.2.2.2.2.2⟩
          case measure => simp [intOf]; omega
    · obtain rfl : n = m := by omega
      have hok : ok = true := by
        cases ok with
        | true => rfl
        | false => have := HCM.out; simp at this; omega
      subst hok
      have hd : ¬ ((n : Int) < (l1 : Int)) ∨ ((n : Int) < (l1 : Int) ∧ ¬ (n : Int) < 16) := by have := HMM.out; omega
      rcases hd with q | ⟨q1, q2⟩
      all_goals
        go_wp2_with fail
        refine ⟨rfl, _, by simp [results, Try.results56], rfl, hpx, n, n, D2, L, hm16, ⟨hC2.dv.monoR (by omega), hC2.pn, hC2.rg, hC2.n12, hC2.al⟩, hRg2.lt, fun ch hf => ⟨L, [], hRg2.crash ch, by simp, by omega, .inl hLn⟩⟩
end Go.Proofs.Ytmdmhjcdaejlkaa
