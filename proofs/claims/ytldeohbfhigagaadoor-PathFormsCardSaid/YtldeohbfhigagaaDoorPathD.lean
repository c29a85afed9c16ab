/- Contracts of path.On and of the reference's ways. -/
import Derived.Test.YtldeohbfhigagaaDoorPathC
import Derived.OwnWalk
set_option linter.unusedVariables false
set_option linter.unusedSimpArgs false
namespace Go.Proofs.YtldeohbfhigagaaDoor
open Go.RowKit

/-! ### ints of the call's own -/
def iv (xs : List Int) : List Value := xs.map (.int .i64)
theorem iv_length (xs : List Int) : (iv xs).length = xs.length := by simp [iv]
theorem iv_append (xs ys : List Int) : iv (xs ++ ys) = iv xs ++ iv ys := by simp [iv]
theorem iv_get (xs : List Int) (j : Nat) : (iv xs)[j]? = xs[j]?.map (.int .i64) := by simp [iv]
def OwnI (w : World) (B : Nat) (v : Value) (xs : List Int) : Prop := w.ownsRow B 3 1 v xs.length (iv xs)
theorem OwnI.nil_ (w : World) (B : Nat) : OwnI w B (.slice none 0 0) [] := ⟨by simp [iv], .inl ⟨rfl, rfl⟩⟩
theorem OwnI.form {w : World} {B : Nat} {v : Value} {xs : List Int} (h : OwnI w B v xs) : ∃ A c, v = .slice A xs.length c ∧ xs.length ≤ c ∧ c ≤ maxLen ∧ Rd w A xs.length (iv xs) := by
  obtain ⟨A, c, rfl, h1, h2⟩ := own_form h
  exact ⟨A, c, rfl, h1, h2, Rd.of_own h⟩
theorem OwnI.below {w w' : World} {B : Nat} {v : Value} {xs : List Int} (h : OwnI w B v xs) (hb : Below w.heap.size w w') : OwnI w' B v xs := own_below h hb
theorem OwnI.mono {w : World} {B B' : Nat} {v : Value} {xs : List Int} (h : OwnI w B v xs) (hb : B' ≤ B) : OwnI w B' v xs := own_mono h hb
theorem info_int : (Tryd.prog.info? 3).map (fun i => (i.zero, i.size, i.bytes)) = some (some (.int .i64 0), 1, 8) := by kernel_rfl
theorem wpl_pushI {ops : Array Oper} {rest : List Oper} {o : Oper} {a : Act} {Q : Exit → Act → World → Prop} {w0 W : World} (hgd : o.guard = none) (s x : Operand)
    (ho : o.op = .call { callee := .builtin .append, args := #[s, x], argTypes := #[32, 32] })
    (base : Nat) {v : Value} {xs : List Int} (HO : OwnI W base v xs) {y : Int} (hs : a.eval s = v) (hx : a.eval x = .slice (some ⟨W.heap.size, 0, none⟩) 1 1)
    (HB : Below base w0 W) (hbase : base ≤ W.heap.size) (hl : xs.length + 1 ≤ 1000000)
    (h : ∀ v1 w1, OwnI w1 base v1 (xs ++ [y]) → Below base w0 w1 → W.grownBy w1 v.ownBlock → wpList Tryd.prog ops Q rest (a.put o.dst v1) w1) :
    wpList Tryd.prog ops Q (o :: rest) a (W.alloc (.cells #[.int .i64 y] 3)) := by
  have HO' : (W.alloc (.cells #[.int .i64 y] 3)).ownsRow base 3 1 v (iv xs).length (iv xs) := by
    rw [iv_length]; exact World.ownsRow.alloc HO _
  refine wpl_app (W.alloc _) hgd s x 32 ho base 3 (.int .i64 0) 8 Tryd.underlying32 info_int rfl v (iv xs) hs HO' _ 1 1 [.int .i64 y] hx (rd_one W _ 3) (by simp [Value.oneCell']) (by rw [iv_length]; simp only [maxLen]; omega) (by rw [iv_length]; omega) (by simp; omega) ?_
  intro v1 w1 hown hg _
  refine h v1 w1 ?_ ((HB.alloc hbase _).grown hg (by simp; omega) (own_base HO)) (World.grownBy.trans (World.grownBy_alloc W _ _) hg)
  unfold OwnI
  rw [iv_append, ← iv_length (xs ++ [y]), iv_append]
  exact hown

theorem onF_no {n leaf : Int} (h : hasB n leaf = false) : onF n leaf = [] ∧ ∀ j, (atF n leaf j).2 = false := by
  unfold hasB lvB at h
  unfold onF atF
  cases hd : dpN n with
  | none => exact ⟨rfl, fun _ => rfl⟩
  | some k =>
    rw [hd] at h
    simp only [Option.isSome_some, Bool.true_and, Bool.and_eq_false_iff, decide_eq_false_iff_not] at h ⊢
    refine ⟨if_neg (by omega), fun j => ?_⟩
    rw [if_neg (by omega)]
theorem onF_yes {n leaf : Int} (h : hasB n leaf = true) : ∃ k x : Nat, k < 17 ∧ dpN n = some k ∧ n = ((2 ^ k : Nat) : Int) ∧ leaf = (x : Int) ∧ x < 2 ^ k ∧ onF n leaf = onL k x ∧ ∀ j : Nat, atF n leaf j = if j ≤ k then (buk k x j, true) else (0, false) := by
  obtain ⟨k, x, e, hk, hn, rfl, hx, _⟩ := hasB_yes h
  refine ⟨k, x, hk, e, hn, rfl, hx, ?_, fun j => ?_⟩
  · unfold onF
    rw [e]
    simp only
    rw [if_pos (by omega)]
    rfl
  · unfold atF
    rw [e]
    simp only
    by_cases hj : j ≤ k
    · rw [if_pos (by omega), if_pos hj]; rfl
    · rw [if_neg (by omega), if_neg hj]
theorem onL_length (k x : Nat) : (onL k x).length = k + 1 := by simp [onL]
theorem onL_get (k x j : Nat) (hj : j ≤ k) : (onL k x)[j]? = some (buk k x j) := by
  unfold onL
  rw [List.getElem?_map, List.getElem?_range (by omega)]
  rfl
theorem onF_len (n leaf : Int) : (onF n leaf).length ≤ 17 := by
  cases hb : hasB n leaf with
  | false => rw [(onF_no hb).1]; simp
  | true => obtain ⟨k, x, hk, _, _, _, _, e, _⟩ := onF_yes hb; rw [e, onL_length]; omega
/-- the way's bucket at a level, or none -/
theorem on_at (n leaf : Int) (j : Nat) : (j < (onF n leaf).length ∧ (atF n leaf j).2 = true ∧ (onF n leaf).take (j + 1) = (onF n leaf).take j ++ [(atF n leaf j).1]) ∨
    ((onF n leaf).length ≤ j ∧ atF n leaf j = (0, false)) := by
  cases hb : hasB n leaf with
  | false =>
    right
    obtain ⟨e, h⟩ := onF_no hb
    exact ⟨by rw [e]; simp, atF_no (h j)⟩
  | true =>
    obtain ⟨k, x, hk, _, _, _, _, e, h⟩ := onF_yes hb
    rw [e, onL_length, h j]
    by_cases hj : j ≤ k
    · left
      rw [if_pos hj]
      refine ⟨by omega, rfl, ?_⟩
      rw [List.take_add_one, onL_get k x j hj]
      rfl
    · right
      rw [if_neg hj]
      exact ⟨by omega, rfl⟩
set_option maxHeartbeats 1000000 in
theorem c_on (n leaf : Int) (w : World) (h : I64 n) (hT : TabW w) :
    Calls Tryd.prog 12 #[.int .i64 n, .int .i64 leaf] w fun e w' => ∃ v, e = .returned v ∧ OwnI w' w.heap.size v (onF n leaf) ∧ Below w.heap.size w w' := by
  have hlen := onF_len n leaf
  have hat := fun (W : World) (hW : TabW W) (j : Nat) => c_at n leaf (j : Int) W h hW
  have hon := on_at n leaf
  generalize onF n leaf = L at *
  generalize (atF n leaf) = f at *
  clear h
  have HAT := Lib.hid hat
  have HON := Lib.hid hon
  clear hat hon
  go_enter Tryd.func12, Tryd.ntmps12
  go_wp2
  go_loopw [5, 6] (fun v lv wr => ∃ j : Nat, j ≤ L.length ∧ lv = .int .i64 (j : Int) ∧ OwnI wr w.heap.size v (L.take j) ∧ Below w.heap.size w wr ∧ TabW wr) (fun _ lv _ => 20 - (intOf lv).toNat)
  case atStart => exact ⟨0, Nat.zero_le _, rfl, by simpa using OwnI.nil_ w w.heap.size, Below.refl _ _, hT⟩
  case round =>
    obtain ⟨j, hj, rfl, ho, hb, hTr⟩ := hrel
    have hA := HAT.out _ hTr j
    rcases HON.out j with ⟨hlt, ht, htk⟩ | ⟨hge, hno⟩
    · rw [ht] at hA
      generalize (f j).1 = y at *
      have HTK := Lib.hid htk
      have hs := hb.size
      have hl0 : (L.take j).length + 1 ≤ 1000000 := by rw [List.length_take]; omega
      clear ht htk
      go_wp2_with (first | (go_at_call 8; refine hA.mono ?_; rintro e w' ⟨rfl, q, rfl⟩) | (at_builtin; refine wpl_pushI rfl _ _ rfl w.heap.size (ho.below (below_drewN (Below.refl _ _) q)) rfl rfl (below_drewN hb q) (by simpa using hs) hl0 ?_; intro v1 w1 ho1 hb1 hg1))
      exact ⟨⟨j + 1, by omega, by go_num, by rw [HTK.out]; exact ho1, hb1, hT.below hb1 (Nat.le_refl _)⟩, by simp [intOf]; omega⟩
    · obtain rfl : j = L.length := by omega
      rw [hno] at hA
      rw [List.take_length] at ho
      clear hno
      go_wp2_with (go_at_call 8; refine hA.mono ?_; rintro e w' ⟨rfl, q, rfl⟩)
      go_ret
      exact ⟨_, rfl, ho.below (below_drewN (Below.refl _ _) q), below_drewN hb q⟩
/-! ### the reference -/
theorem c_rLv (n : Int) (w : World) (h : I64 n) : Calls Tryd.prog 20 #[.int .i64 n] w fun e w' => e = .returned (.bool (lvB n)) ∧ w = w' := by
  obtain ⟨h1, h2⟩ := h
  by_cases q1 : 1 ≤ n
  · by_cases q2 : n ≤ 65536
    · have hf := lv_facts q1 q2
      generalize lvB n = r at *
      cases r with
      | true =>
        go_enter Tryd.func20, Tryd.ntmps20
        go_wp2
        go_ret
        exact ⟨rfl, rfl⟩
      | false =>
        go_enter Tryd.func20, Tryd.ntmps20
        go_wp2
        go_ret
        exact ⟨rfl, rfl⟩
    · rw [lv_out (by omega)]
      go_enter Tryd.func20, Tryd.ntmps20
      go_wp2
      go_ret
      exact ⟨rfl, rfl⟩
  · rw [lv_out (by omega)]
    go_enter Tryd.func20, Tryd.ntmps20
    go_wp2
    go_ret
    exact ⟨rfl, rfl⟩
theorem pow_half (k : Nat) : ((2 ^ (k + 1) : Nat) : Int) / 2 = ((2 ^ k : Nat) : Int) := by rw [Nat.pow_succ]; omega
set_option maxHeartbeats 1000000 in
theorem c_rDep (n : Int) (w : World) (h : I64 n) : Calls Tryd.prog 14 #[.int .i64 n] w fun e w' => e = .returned (.int .i64 (dpF n)) ∧ w = w' := by
  unfold dpF
  cases hd : dpN n with
  | none =>
    have hl := c_rLv n w h
    unfold lvB at hl
    rw [hd] at hl
    clear hd
    go_enter Tryd.func14, Tryd.ntmps14
    go_wp2
    go_loop [0, 3] (fun a b => a = .int .i64 n ∧ b = .int .i64 0) (fun _ _ => 0)
    case atStart => exact ⟨rfl, rfl⟩
    case round =>
      obtain ⟨rfl, rfl⟩ := hrel
      go_wp2_with (go_at_call 20; refine hl.mono ?_; rintro e w' ⟨rfl, rfl⟩)
      go_ret
      exact ⟨rfl, rfl⟩
  | some k =>
    obtain ⟨hk, rfl⟩ := dpN_some hd
    clear hd h
    go_enter Tryd.func14, Tryd.ntmps14
    go_wp2
    go_loop [0, 3] (fun a b => ∃ j : Nat, j ≤ k ∧ a = .int .i64 ((2 ^ (k - j) : Nat) : Int) ∧ b = .int .i64 (j : Int)) (fun _ b => 20 - (intOf b).toNat)
    case atStart => exact ⟨0, Nat.zero_le _, rfl, rfl⟩
    case round =>
      obtain ⟨j, hj, rfl, rfl⟩ := hrel
      have hp := pow17 (show k - j < 17 by omega)
      have hl := c_rLv ((2 ^ (k - j) : Nat) : Int) w ⟨by omega, by omega⟩
      unfold lvB at hl
      rw [dpN_pow (by omega)] at hl
      by_cases hlt : j < k
      · obtain ⟨m, hm⟩ : ∃ m, k - j = m + 1 := ⟨k - j - 1, by omega⟩
        have hm2 : k - (j + 1) = m := by omega
        have hh := pow_half m
        have hp2 := pow17 (show m < 17 by omega)
        have hg : (1 : Int) < ((2 ^ (m + 1) : Nat) : Int) := by rw [Nat.pow_succ]; omega
        rw [hm] at hl hp ⊢
        have HR := Lib.hid (show ((2 ^ (k - (j + 1)) : Nat) : Int) = ((2 ^ m : Nat) : Int) by rw [hm2])
        have hx : 0 ≤ ((2 ^ (m + 1) : Nat) : Int) ∧ ((2 ^ (m + 1) : Nat) : Int) ≤ 65536 := by omega
        generalize ((2 ^ (m + 1) : Nat) : Int) = x at *
        obtain ⟨hx0, hx1⟩ := hx
        have HH := Lib.hid hh
        clear hm hm2 hp hh
        go_wp2_with (go_at_call 20; refine hl.mono ?_; rintro e w' ⟨rfl, rfl⟩)
        go_round
        case rel => exact ⟨j + 1, by omega, by rw [HR.out, HH.out], by go_num⟩
        case measure => simp [intOf]; omega
      · obtain rfl : j = k := by omega
        rw [Nat.sub_self] at hl ⊢
        clear hp hlt
        go_wp2_with (go_at_call 20; refine hl.mono ?_; rintro e w' ⟨rfl, rfl⟩)
        go_ret
        exact ⟨rfl, rfl⟩
theorem c_rBuc (n : Int) (w : World) (h : I64 n) : Calls Tryd.prog 16 #[.int .i64 n] w fun e w' => e = .returned (.int .i64 (buF n)) ∧ w = w' := by
  have hl := c_rLv n w h
  unfold lvB at hl
  unfold buF
  cases hd : dpN n with
  | none =>
    rw [hd] at hl
    clear hd
    go_enter Tryd.func16, Tryd.ntmps16
    go_wp2_with (go_at_call 20; refine hl.mono ?_; rintro e w' ⟨rfl, rfl⟩)
    go_ret
    exact ⟨rfl, rfl⟩
  | some k =>
    rw [hd] at hl
    obtain ⟨hk, hx⟩ := dpN_some hd
    clear hd
    have hp := pow17 hk
    have hx1 : 0 ≤ n ∧ n ≤ 65536 := by omega
    obtain ⟨hx0, hx1⟩ := hx1
    clear hx h
    go_enter Tryd.func16, Tryd.ntmps16
    go_wp2_with (go_at_call 20; refine hl.mono ?_; rintro e w' ⟨rfl, rfl⟩)
    go_ret
    exact ⟨rfl, rfl⟩
theorem c_rAt (n leaf level : Int) (w : World) (h : I64 n) (hv : I64 level) :
    Calls Tryd.prog 13 #[.int .i64 n, .int .i64 leaf, .int .i64 level] w fun e w' => e = .returned (.tuple #[.int .i64 (atF n leaf level).1, .bool (atF n leaf level).2]) ∧ w = w' := by
  have hd := c_rDep n w h
  have hl := c_rLv n w h
  unfold lvB at hl
  unfold dpF at hd
  unfold atF
  cases hn : dpN n with
  | none =>
    rw [hn] at hl hd
    simp only [Option.isSome_none] at hl hd
    go_enter Tryd.func13, Tryd.ntmps13
    go_wp2_with (first | (go_at_call 14; refine hd.mono ?_; rintro e w' ⟨rfl, rfl⟩) | (go_at_call 20; refine hl.mono ?_; rintro e w' ⟨rfl, rfl⟩))
    go_ret2
    exact ⟨rfl, rfl⟩
  | some k =>
    rw [hn] at hl hd
    simp only [Option.isSome_some] at hl hd
    obtain ⟨hk, hx⟩ := dpN_some hn
    simp only
    have hk0 : 0 ≤ (k : Int) ∧ (k : Int) < 17 := by omega
    obtain ⟨hk0, hk1⟩ := hk0
    clear hn
    by_cases q1 : leaf < 0
    · rw [if_neg (by omega)]
      clear hx h hv
      go_enter Tryd.func13, Tryd.ntmps13
      go_wp2_with (first | (go_at_call 14; refine hd.mono ?_; rintro e w' ⟨rfl, rfl⟩) | (go_at_call 20; refine hl.mono ?_; rintro e w' ⟨rfl, rfl⟩))
      go_ret2
      exact ⟨rfl, rfl⟩
    by_cases q2 : n ≤ leaf
    · rw [if_neg (by omega)]
      clear hx h hv
      go_enter Tryd.func13, Tryd.ntmps13
      go_wp2_with (first | (go_at_call 14; refine hd.mono ?_; rintro e w' ⟨rfl, rfl⟩) | (go_at_call 20; refine hl.mono ?_; rintro e w' ⟨rfl, rfl⟩))
      go_ret2
      exact ⟨rfl, rfl⟩
    by_cases q3 : level < 0
    · rw [if_neg (by omega)]
      clear hx h hv
      go_enter Tryd.func13, Tryd.ntmps13
      go_wp2_with (first | (go_at_call 14; refine hd.mono ?_; rintro e w' ⟨rfl, rfl⟩) | (go_at_call 20; refine hl.mono ?_; rintro e w' ⟨rfl, rfl⟩))
      go_ret2
      exact ⟨rfl, rfl⟩
    by_cases q4 : (k : Int) < level
    · rw [if_neg (by omega)]
      clear hx h hv
      go_enter Tryd.func13, Tryd.ntmps13
      go_wp2_with (first | (go_at_call 14; refine hd.mono ?_; rintro e w' ⟨rfl, rfl⟩) | (go_at_call 20; refine hl.mono ?_; rintro e w' ⟨rfl, rfl⟩))
      go_ret2
      exact ⟨rfl, rfl⟩
    · rw [if_pos (by omega)]
      obtain ⟨x, rfl⟩ : ∃ x : Nat, leaf = (x : Int) := ⟨leaf.toNat, by omega⟩
      obtain ⟨y, rfl⟩ : ∃ y : Nat, level = (y : Int) := ⟨level.toNat, by omega⟩
      have hw := buk_w k x y hk (by omega) (by omega)
      have hy16 : (y : Int) ≤ 16 := by omega
      simp only [Int.toNat_natCast]
      unfold buk
      clear hx h hv hk
      go_enter Tryd.func13, Tryd.ntmps13
      go_wp2_with (first | (go_at_call 14; refine hd.mono ?_; rintro e w' ⟨rfl, rfl⟩) | (go_at_call 20; refine hl.mono ?_; rintro e w' ⟨rfl, rfl⟩))
      go_ret2
      refine ⟨congrArg (fun v => Ending.returned (.tuple #[.int .i64 v, .bool true])) ?_, rfl⟩
      exact hw
end Go.Proofs.YtldeohbfhigagaaDoor
