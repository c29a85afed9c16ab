/- Records on the device: plain laws. -/
import Derived.Test.YtlbpmboknmbcgaaBootE
set_option linter.unusedVariables false
namespace Go.Proofs.Ytlbpmboknmbcgaa

theorem numP {k : Nat} (hk : k < 4294967296) : leN (leP k 4) = k := by
  rw [leN_leP]
  exact Nat.mod_eq_of_lt (by simpa using hk)
theorem rec_take (k j : Nat) : (recP k ++ List.replicate j 0).take 24 = recP k := List.take_left' (recP_length k)
theorem rec_drop (k j : Nat) : (recP k ++ List.replicate j 0).drop 24 = List.replicate j 0 := List.drop_left' (recP_length k)
theorem rec_num {k : Nat} (hk : k < 4294967296) (xs : List UInt8) : numAt (recP k ++ xs) = k := by
  unfold numAt recP
  rw [List.append_assoc, List.append_assoc, List.drop_left' (by simp), List.take_left' (leP_length k 4), numP hk]
theorem parse_rec {k : Nat} (h0 : k ≠ 0) (hk : k < 4294967296) (j : Nat) : parseN (recP k ++ List.replicate j 0) = some k := by
  have hn := rec_num hk (List.replicate j 0)
  have h := parse_yes (b := recP k ++ List.replicate j 0) (by rw [List.length_append, recP_length]; omega) (by rw [hn]; exact h0) (by rw [hn, rec_take]) (by rw [rec_drop]; exact zeroL_rep j)
  rw [hn] at h
  exact h
theorem leN_zeros (n : Nat) : leN (List.replicate n 0) = 0 := by
  induction n with
  | zero => rfl
  | succ n ih => rw [List.replicate_succ]; unfold leN at ih ⊢; rw [List.foldr_cons, ih]; rfl
theorem parse_zeros (n : Nat) : parseN (List.replicate n 0) = none := by
  apply parse_no
  intro h
  apply h.2.1
  unfold numAt
  rw [List.drop_replicate, List.take_replicate]
  exact leN_zeros _
theorem fit_rec {s : Int} (hs : 24 ≤ s) (k : Nat) : fitL s (recP k) = recP k ++ List.replicate (s.toNat - 24) 0 := by
  unfold fitL copyL
  rw [List.length_replicate, List.take_of_length_le (by rw [recP_length]; omega), recP_length, List.drop_replicate, Nat.min_eq_left (by omega)]
theorem parseV_of {b : List UInt8} {k : Nat} (h : parseN b = some k) : parseV b = k := by unfold parseV; rw [h]; rfl
theorem parseV_none {b : List UInt8} (h : parseN b = none) : parseV b = 0 := by unfold parseV; rw [h]; rfl
theorem write_atq {D : Dk} {q : Int} (hq : D.has q = true) (xs : List UInt8) : (D.write q xs).at_ (D.write q xs).now q = fitL D.size xs := by
  rw [at_yes (by rw [write_has]; exact hq), write_size, write_now hq]
  simp [fitL_fitL]
theorem write_ati {D : Dk} {q i : Int} (hi : i ≠ q) (xs : List UInt8) : (D.write q xs).at_ (D.write q xs).now i = D.at_ D.now i := by
  unfold Dk.at_
  rw [write_has, write_size]
  by_cases hq : D.has q = true
  · rw [write_now hq]; simp [hi]
  · have h : (D.write q xs).now = D.now := by unfold Dk.write; rw [if_neg hq]; rfl
    rw [h]
theorem write_num {D : Dk} {q : Int} {k : Nat} (hq : D.has q = true) (hs : 24 ≤ D.size) (h0 : k ≠ 0) (hk : k < 4294967296) : parseV ((D.write q (recP k)).at_ (D.write q (recP k)).now q) = k := by
  rw [write_atq hq, fit_rec hs]
  exact parseV_of (parse_rec h0 hk _)
/-- a device on which numbers stand at a, a + 1 -/
structure Two (D : Dk) (a : Nat) : Prop where
  h1 : D.has (a : Int) = true
  h2 : D.has ((a : Int) + 1) = true
  s : 24 ≤ D.size
theorem bump_at (D : Dk) (a : Nat) : ((lastN D a + 1) % 2 = 0 ∧ bumpAt D a = (a : Int) + 1) ∨ ((lastN D a + 1) % 2 = 1 ∧ bumpAt D a = (a : Int)) := by
  unfold bumpAt
  rcases Nat.mod_two_eq_zero_or_one (lastN D a + 1) with h | h
  · rw [h]; left; exact ⟨rfl, by simp⟩
  · rw [h]; right; refine ⟨rfl, ?_⟩; show (a : Int) + 1 - 1 = a; omega
theorem bump_last {D : Dk} {a : Nat} (h : Two D a) (hm : lastN D a < 4294967295) : lastN (bumpW D a) a = lastN D a + 1 := by
  have hne : (a : Int) ≠ (a : Int) + 1 := by omega
  have hl1 : parseV (D.at_ D.now a) ≤ lastN D a := Nat.le_max_left _ _
  have hl2 : parseV (D.at_ D.now ((a : Int) + 1)) ≤ lastN D a := Nat.le_max_right _ _
  unfold bumpW
  rcases bump_at D a with ⟨_, e⟩ | ⟨_, e⟩
  · rw [e]
    have h1 := write_num (D := look D a) (q := (a : Int) + 1) (k := lastN D a + 1) h.h2 h.s (by omega) (by omega)
    have h2 := write_ati (D := look D a) (q := (a : Int) + 1) (i := (a : Int)) hne (recP (lastN D a + 1))
    show max _ _ = _
    rw [h1, h2]
    show max (parseV (D.at_ D.now a)) _ = _
    omega
  · rw [e]
    have h1 := write_num (D := look D a) (q := (a : Int)) (k := lastN D a + 1) h.h1 h.s (by omega) (by omega)
    have h2 := write_ati (D := look D a) (q := (a : Int)) (i := (a : Int) + 1) (Ne.symm hne) (recP (lastN D a + 1))
    show max _ _ = _
    rw [h1, h2]
    show max _ (parseV (D.at_ D.now ((a : Int) + 1))) = _
    omega
theorem Two.write {D : Dk} {a : Nat} (h : Two D a) (q : Int) (xs : List UInt8) : Two (D.write q xs) a := ⟨by rw [write_has]; exact h.h1, by rw [write_has]; exact h.h2, by rw [write_size]; exact h.s⟩
theorem Two.look {D : Dk} {a : Nat} (h : Two D a) : Two (look D a) a := ⟨h.h1, h.h2, h.s⟩
theorem Two.flush {D : Dk} {a : Nat} (h : Two D a) : Two D.flush a := ⟨h.h1, h.h2, h.s⟩
theorem Two.bump {D : Dk} {a : Nat} (h : Two D a) : Two (bumpW D a).flush a := (h.look.write _ _).flush
theorem Free.look {D : Dk} (h : Free D) (a : Int) : Free (look D a) := (h.read a).read (a + 1)
theorem Free.bumpW {D : Dk} (h : Free D) (a : Nat) : Free (bumpW D a) := (h.look a).write _ _
theorem look_trace (D : Dk) (a : Int) : (look D a).trace.length = D.trace.length + 2 := by
  show ((D.trace ++ [_]) ++ [_]).length = _
  simp
theorem flush_trace (D : Dk) : D.flush.trace.length = D.trace.length + 1 := by
  show (D.trace ++ [_]).length = _
  simp
theorem writeT_length (D : Dk) (a : Int) (xs : List UInt8) : (D.write a xs).trace.length = D.trace.length + 1 := by rw [write_trace]; simp
theorem bump_trace (D : Dk) (a : Nat) : (bumpW D a).flush.trace.length = D.trace.length + 4 := by
  rw [flush_trace]; unfold bumpW; rw [writeT_length, look_trace]
theorem lastN_look (D : Dk) (a : Nat) : lastN (look D a) a = lastN D a := rfl
theorem lastN_flush (D : Dk) (a : Nat) : lastN D.flush a = lastN D a := rfl
end Go.Proofs.Ytlbpmboknmbcgaa
