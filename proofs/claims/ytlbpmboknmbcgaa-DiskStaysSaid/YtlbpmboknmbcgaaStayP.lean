/- DiskStays: plain laws. -/
import Derived.Test.YtlbpmboknmbcgaaLawBounds
set_option linter.unusedVariables false
namespace Go.Proofs.Ytlbpmboknmbcgaa

/-- row j of eight rows of four bytes -/
def rw4 (ws : List UInt8) (j : Nat) : List UInt8 := (ws.drop (4 * j)).take 4
def pt4 (ws : List UInt8) (q : Nat) (Y : List UInt8) : List UInt8 := ws.take (4 * q) ++ Y ++ ws.drop (4 * q + 4)
theorem pt4_length {ws Y : List UInt8} {q : Nat} (h : ws.length = 32) (hq : q < 8) (hY : Y.length = 4) : (pt4 ws q Y).length = 32 := by
  unfold pt4; simp only [List.length_append, List.length_take, List.length_drop]; omega
theorem pt4_get {ws Y : List UInt8} {q : Nat} (h : ws.length = 32) (hq : q < 8) (hY : Y.length = 4) (n : Nat) : (pt4 ws q Y)[n]? = if n < 4 * q then ws[n]? else if n < 4 * q + 4 then Y[n - 4 * q]? else ws[n]? := by
  unfold pt4
  have hl : (ws.take (4 * q)).length = 4 * q := by rw [List.length_take]; omega
  rw [List.append_assoc]
  by_cases h1 : n < 4 * q
  · rw [if_pos h1, List.getElem?_append_left (by omega), List.getElem?_take_of_lt h1]
  · rw [if_neg h1, List.getElem?_append_right (by omega), hl]
    by_cases h2 : n < 4 * q + 4
    · rw [if_pos h2, List.getElem?_append_left (by omega)]
    · rw [if_neg h2, List.getElem?_append_right (by omega), hY, List.getElem?_drop]
      congr 1; omega
theorem rw4_get (ws : List UInt8) (j k : Nat) : (rw4 ws j)[k]? = if k < 4 then ws[4 * j + k]? else none := by
  unfold rw4
  by_cases h : k < 4
  · rw [if_pos h, List.getElem?_take_of_lt h, List.getElem?_drop]
  · rw [if_neg h, List.getElem?_take, if_neg h]
theorem rw4_same {ws Y : List UInt8} {q : Nat} (h : ws.length = 32) (hq : q < 8) (hY : Y.length = 4) : rw4 (pt4 ws q Y) q = Y := by
  apply List.ext_getElem?
  intro k
  rw [rw4_get, pt4_get h hq hY]
  by_cases hk : k < 4
  · rw [if_pos hk, if_neg (by omega), if_pos (by omega)]; congr 1; omega
  · rw [if_neg hk, List.getElem?_eq_none (by omega)]
theorem rw4_other {ws Y : List UInt8} {q j : Nat} (h : ws.length = 32) (hq : q < 8) (hY : Y.length = 4) (hj : j ≠ q) : rw4 (pt4 ws q Y) j = rw4 ws j := by
  apply List.ext_getElem?
  intro k
  rw [rw4_get, rw4_get, pt4_get h hq hY]
  by_cases hk : k < 4
  · rw [if_pos hk, if_pos hk]
    by_cases h1 : 4 * j + k < 4 * q
    · rw [if_pos h1]
    · rw [if_neg h1, if_neg (by omega)]
  · rw [if_neg hk, if_neg hk]
theorem fit4_length (xs : List UInt8) : (fitL 4 xs).length = 4 := fitL_length 4 xs
theorem fit4_fit (xs : List UInt8) : fitL 4 (fitL 4 xs) = fitL 4 xs := fitL_fitL 4 xs
theorem fit4_gar (xs : List UInt8) : fitL 4 (garL (fitL 4 xs)) = garL (fitL 4 xs) := fitL_full 4 _ (by rw [garL_length, fit4_length]; rfl)
structure S1 (D : Dk) (ws : List UInt8) : Prop where
  fr : Free D
  bl : D.blocks = 8
  sz : D.size = 4
  ly : D.now = layL D.stable D.loose
  len : ws.length = 32
  ro : ∀ j : Nat, j < 8 → rw4 ws j = fitL 4 (D.now (j : Int))
theorem s1_new : S1 (dkNew 8 4) (List.replicate 32 0) := by
  refine ⟨⟨rfl, rfl⟩, rfl, rfl, rfl, rfl, fun j hj => ?_⟩
  show _ = fitL 4 []
  rw [fitL_nil]
  unfold rw4
  rw [List.drop_replicate, List.take_replicate]
  congr 1
  show min 4 (32 - 4 * j) = 4
  omega
theorem S1.has {D : Dk} {ws : List UInt8} (h : S1 D ws) {q : Nat} (hq : q < 8) : D.has (q : Int) = true := has_true (by omega) (by rw [h.bl]; omega)
theorem S1.write {D : Dk} {ws : List UInt8} (h : S1 D ws) {q : Nat} (hq : q < 8) (xs : List UInt8) : S1 (D.write (q : Int) xs) (pt4 ws q (fitL 4 xs)) := by
  have hh := h.has hq
  refine ⟨h.fr.write _ _, by rw [write_blocks, h.bl], by rw [write_size, h.sz], ?_, pt4_length h.len hq (fit4_length _), fun j hj => ?_⟩
  · rw [write_now hh, write_stable, write_loose hh, layL_snoc, h.ly]
  · rw [write_now hh, h.sz]
    by_cases e : j = q
    · subst e
      rw [rw4_same h.len hq (fit4_length _)]
      simp [fit4_fit]
    · rw [rw4_other h.len hq (fit4_length _) e, h.ro j hj]
      have : ¬ (j : Int) = (q : Int) := by omega
      simp [this]
structure S2 (D : Dk) (ws : List UInt8) (ch : List Int) (i : Nat) : Prop where
  fr : Free D
  bl : D.blocks = 8
  sz : D.size = 4
  nl : D.loose.length = i
  len : ws.length = 32
  ro : ∀ j : Nat, j < 8 → rw4 ws j = fitL 4 (crashF D ch i (j : Int))
theorem S1.flush {D : Dk} {ws : List UInt8} (h : S1 D ws) (ch : List Int) : S2 D.flush ws ch 0 := by
  refine ⟨h.fr.flush, h.bl, h.sz, rfl, h.len, fun j hj => ?_⟩
  rw [h.ro j hj, h.ly]
  rfl
theorem S2.has {D : Dk} {ws : List UInt8} {ch : List Int} {i : Nat} (h : S2 D ws ch i) {q : Nat} (hq : q < 8) : D.has (q : Int) = true := has_true (by omega) (by rw [h.bl]; omega)
/-- a write does not turn what the crash makes of those ahead of it -/
theorem crashF_write {D : Dk} {k : Int} (h : D.has k = true) (xs : List UInt8) (ch : List Int) : ∀ j, j ≤ D.loose.length → crashF (D.write k xs) ch j = crashF D ch j
  | 0, _ => by show (D.write k xs).stable = D.stable; exact write_stable _ _ _
  | j + 1, hj => by
    have ih := crashF_write h xs ch j (by omega)
    have e : (D.write k xs).loose[j]? = D.loose[j]? := by rw [write_loose h, List.getElem?_append_left (by omega)]
    simp only [crashF, e, ih]
theorem crashF_last {D : Dk} {k : Int} (h : D.has k = true) (xs : List UInt8) (ch : List Int) {i : Nat} (hi : D.loose.length = i) :
    crashF (D.write k xs) ch (i + 1) = crash1 (crashF D ch i) (k, fitL D.size xs) (chs ch i) := by
  subst hi
  have e2 : (D.write k xs).loose[D.loose.length]? = some (k, fitL D.size xs) := by rw [write_loose h, List.getElem?_append_right (Nat.le_refl _)]; simp
  simp only [crashF, e2, crashF_write h xs ch _ (Nat.le_refl _)]
def st2 (ws : List UInt8) (q : Nat) (F : List UInt8) (c : Int) : List UInt8 := if c = 0 then pt4 ws q F else if c = 2 then pt4 ws q (garL F) else ws
theorem S2.write {D : Dk} {ws : List UInt8} {ch : List Int} {i : Nat} (h : S2 D ws ch i) {q : Nat} (hq : q < 8) (xs : List UInt8) : S2 (D.write (q : Int) xs) (st2 ws q (fitL 4 xs) (chs ch i)) ch (i + 1) := by
  have hh := h.has hq
  have hg : (garL (fitL 4 xs)).length = 4 := by rw [garL_length, fit4_length]
  refine ⟨h.fr.write _ _, by rw [write_blocks, h.bl], by rw [write_size, h.sz], by rw [write_loose hh]; simp [h.nl], ?_, fun j hj => ?_⟩
  · unfold st2
    split
    · exact pt4_length h.len hq (fit4_length _)
    · split
      · exact pt4_length h.len hq hg
      · exact h.len
  · rw [crashF_last hh xs ch h.nl, h.sz]
    unfold st2 crash1
    split
    · by_cases e : j = q
      · subst e; rw [rw4_same h.len hq (fit4_length _)]; simp [fit4_fit]
      · have e' : ¬ (j : Int) = (q : Int) := by omega
        rw [rw4_other h.len hq (fit4_length _) e, h.ro j hj]; simp [e']
    · split
      · by_cases e : j = q
        · subst e; rw [rw4_same h.len hq hg]; simp [fit4_gar]
        · have e' : ¬ (j : Int) = (q : Int) := by omega
          rw [rw4_other h.len hq hg e, h.ro j hj]; simp [e']
      · exact h.ro j hj
/-- what stands behind the crash -/
structure S3 (D : Dk) (ws : List UInt8) : Prop where
  fr : Free D
  len : ws.length = 32
  st : ∀ j : Nat, j < 8 → D.at_ D.stable (j : Int) = rw4 ws j
  nw : ∀ j : Nat, j < 8 → D.at_ D.now (j : Int) = rw4 ws j
theorem S2.crash {D : Dk} {ws : List UInt8} {ch : List Int} {i : Nat} (h : S2 D ws ch i) : S3 (D.crash ch) ws := by
  have hst : (D.crash ch).stable = crashF D ch i := by show crashF D ch D.loose.length = _; rw [h.nl]
  have hnw : (D.crash ch).now = crashF D ch i := by show crashF D ch D.loose.length = _; rw [h.nl]
  have hh : ∀ j : Nat, j < 8 → (D.crash ch).has (j : Int) = true := fun j hj => has_true (by omega) (by show _ < D.blocks; rw [h.bl]; omega)
  have hs : (D.crash ch).size = 4 := h.sz
  exact ⟨Free.crash _ _, h.len, fun j hj => by rw [at_yes (hh j hj), hst, hs, h.ro j hj], fun j hj => by rw [at_yes (hh j hj), hnw, hs, h.ro j hj]⟩
theorem S3.read {D : Dk} {ws : List UInt8} (h : S3 D ws) (a : Int) : S3 (D.read a) ws := ⟨h.fr.read a, h.len, h.st, h.nw⟩
/-- bytes garbled one by one -/
def gk (ws : List UInt8) (q : Nat) (F : List UInt8) (k : Nat) : List UInt8 := ws.take (4 * q) ++ (garL (F.take k) ++ ws.drop (4 * q + k))
theorem gk_zero (ws : List UInt8) (q : Nat) (F : List UInt8) : gk ws q F 0 = ws := by unfold gk garL; simp
theorem gk_four (ws : List UInt8) (q : Nat) (F : List UInt8) (hF : F.length = 4) : gk ws q F 4 = pt4 ws q (garL F) := by unfold gk pt4; rw [List.take_of_length_le (l := F) (by omega), List.append_assoc]
theorem gk_length {ws F : List UInt8} {q k : Nat} (h : ws.length = 32) (hq : q < 8) (hF : F.length = 4) (hk : k ≤ 4) : (gk ws q F k).length = 32 := by
  unfold gk; simp only [List.length_append, List.length_take, List.length_drop, garL_length]; omega
theorem gk_step {ws F : List UInt8} {q k : Nat} (h : ws.length = 32) (hq : q < 8) (hF : F.length = 4) (hk : k < 4) : (gk ws q F k).set (4 * q + k) (F.getD k 0 ^^^ 165) = gk ws q F (k + 1) := by
  unfold gk
  have l1 : (ws.take (4 * q)).length = 4 * q := by rw [List.length_take]; omega
  have l2 : (garL (F.take k)).length = k := by rw [garL_length, List.length_take]; omega
  rw [List.set_append_right _ _ (by omega), l1, show 4 * q + k - 4 * q = k by omega, List.set_append_right _ _ (by omega), l2, Nat.sub_self]
  have e1 : ws.drop (4 * q + k) = ws[4 * q + k]'(by omega) :: ws.drop (4 * q + (k + 1)) := by rw [← Nat.add_assoc]; exact List.drop_eq_getElem_cons (by omega)
  have e2 : garL (F.take (k + 1)) = garL (F.take k) ++ [F.getD k 0 ^^^ 165] := by
    unfold garL
    rw [List.take_succ_eq_append_getElem (by omega), List.map_append, List.getD_eq_getElem?_getD, List.getElem?_eq_getElem (by omega)]
    rfl
  rw [e1, e2, List.set_cons_zero, List.append_assoc, List.singleton_append]
end Go.Proofs.Ytlbpmboknmbcgaa
