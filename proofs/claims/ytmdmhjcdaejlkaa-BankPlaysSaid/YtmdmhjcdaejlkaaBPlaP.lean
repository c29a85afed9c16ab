/- BankPlays, plainly: what stands at each place, and stood. -/
import Derived.Test.YtmdmhjcdaejlkaaStrR
set_option linter.unusedVariables false
set_option linter.unusedSimpArgs false
namespace Go.Proofs.Ytmdmhjcdaejlkaa

structure Bp (key : List UInt8) (D : Dk) (l : List (Bool × Bool)) (now was : List (Option (List UInt8))) (n : Nat) : Prop where
  fr : Free D
  sz : D.size = ((60 : Nat) : Int)
  bl : D.blocks = 20
  ll : l.length = n
  nl : now.length = n
  wl : was.length = n
  hn : ∀ k s f, l[k]? = some (s, f) → now[k]? = some (openL key (D.at_ D.now ((blkN 1 k (s != f) : Nat) : Int)))
  hw : ∀ k s f, l[k]? = some (s, f) → was[k]? = some (openL key (D.at_ D.now ((blkN 1 k s : Nat) : Int)))
variable {key : List UInt8} {D : Dk} {l : List (Bool × Bool)} {now was : List (Option (List UInt8))} {n : Nat}
theorem blkN_ne {a k j : Nat} {s t : Bool} (h : k ≠ j) : blkN a k s ≠ blkN a j t := by unfold blkN; split <;> split <;> omega
theorem blkN_not {a k : Nat} (s : Bool) : blkN a k s ≠ blkN a k (!s) := by unfold blkN; cases s <;> simp
theorem Bp.new (hb : openL key (List.replicate 60 0) = none) (n : Nat) : Bp key (dkNew 20 60) (List.replicate n (true, false)) (List.replicate n none) (List.replicate n none) n := by
  have hat : ∀ q : Int, openL key ((dkNew 20 60).at_ (dkNew 20 60).now q) = none := by
    intro q
    rcases fresh_at (bl := 20) (s := 60) (by decide) q with e | e
    · have e' : (dkNew 20 60).at_ (dkNew 20 60).now q = [] := e
      rw [e']; exact openL_nil key
    · have e' : (dkNew 20 60).at_ (dkNew 20 60).now q = List.replicate 60 0 := e
      rw [e']; exact hb
  refine ⟨⟨rfl, rfl⟩, rfl, rfl, by simp, by simp, by simp, fun k s f h => ?_, fun k s f h => ?_⟩ <;>
    (have hk : k < n := by simpa using (List.getElem?_eq_some_iff.1 h).1
     rw [hat, List.getElem?_replicate, if_pos hk])
theorem Bp.read (h : Bp key D l now was n) (a : Int) : Bp key (D.read a) l now was n := ⟨h.fr.read a, h.sz, h.bl, h.ll, h.nl, h.wl, h.hn, h.hw⟩
theorem Bp.write (h : Bp key D l now was n) (hn8 : n ≤ 8) {k seq : Nat} {s f : Bool} {xs : List UInt8} (hl : l[k]? = some (s, f)) (hx : xs.length ≤ 38) (hq : seq < 18446744073709551616) :
    Bp key (D.write ((blkN 1 k (!s) : Nat) : Int) (sealL key 1 seq xs 60)) (l.set k (s, true)) (now.set k (some xs)) was n := by
  have hk : k < n := by have := (List.getElem?_eq_some_iff.1 hl).1; rw [h.ll] at this; exact this
  have hb : blkN 1 k (!s) < 20 := by unfold blkN; split <;> omega
  have hh : D.has ((blkN 1 k (!s) : Nat) : Int) = true := has_true (by omega) (by rw [h.bl]; omega)
  refine ⟨h.fr.write _ _, by rw [write_size]; exact h.sz, by rw [write_blocks]; exact h.bl, by rw [List.length_set]; exact h.ll, by rw [List.length_set]; exact h.nl, h.wl, fun j t g hj => ?_, fun j t g hj => ?_⟩
  · rw [List.getElem?_set] at hj ⊢
    split at hj
    · rename_i e
      subst e
      rw [if_pos (by rw [h.ll]; exact hk)] at hj
      cases hj
      rw [if_pos rfl, if_pos (by rw [h.nl]; exact hk), show (s != true) = (!s) by cases s <;> rfl, seal_at hh (s := 60) h.sz (sealL_length (by omega))]
      rw [openL_sealL (by omega) (by omega)]
    · rename_i e
      rw [if_neg e, write_at_ne (by intro e2; exact blkN_ne (a := 1) (s := t != g) (t := !s) (Ne.symm e) (by omega))]
      exact h.hn j t g hj
  · rw [List.getElem?_set] at hj
    split at hj
    · rename_i e
      subst e
      rw [if_pos (by rw [h.ll]; exact hk)] at hj
      cases hj
      rw [write_at_ne (by intro e2; exact blkN_not (a := 1) (k := k) s (by omega))]
      exact h.hw k s f hl
    · rename_i e
      rw [write_at_ne (by intro e2; exact blkN_ne (a := 1) (s := t) (t := !s) (Ne.symm e) (by omega))]
      exact h.hw j t g hj
theorem Bp.commit (h : Bp key D l now was n) : Bp key D (l.map cmP) now now n := by
  have hx : ∀ k s f, (l.map cmP)[k]? = some (s, f) → f = false ∧ now[k]? = some (openL key (D.at_ D.now ((blkN 1 k s : Nat) : Int))) := by
    intro k s f hk
    rw [List.getElem?_map] at hk
    cases hl : l[k]? with
    | none => rw [hl] at hk; cases hk
    | some p =>
      rw [hl] at hk
      cases hk
      exact ⟨rfl, h.hn k p.1 p.2 hl⟩
  refine ⟨h.fr, h.sz, h.bl, by rw [List.length_map]; exact h.ll, h.nl, h.nl, fun k s f hk => ?_, fun k s f hk => (hx k s f hk).2⟩
  obtain ⟨rfl, e⟩ := hx k s f hk
  rw [show (s != false) = s by cases s <;> rfl]
  exact e
theorem Bp.load (h : Bp key D l now was n) : Bp key D (l.map fun p => (p.1, false)) was was n := by
  have hx : ∀ k s f, (l.map fun p => (p.1, false))[k]? = some (s, f) → f = false ∧ was[k]? = some (openL key (D.at_ D.now ((blkN 1 k s : Nat) : Int))) := by
    intro k s f hk
    rw [List.getElem?_map] at hk
    cases hl : l[k]? with
    | none => rw [hl] at hk; cases hk
    | some p =>
      rw [hl] at hk
      cases hk
      exact ⟨rfl, h.hw k p.1 p.2 hl⟩
  refine ⟨h.fr, h.sz, h.bl, by rw [List.length_map]; exact h.ll, h.wl, h.wl, fun k s f hk => ?_, fun k s f hk => (hx k s f hk).2⟩
  obtain ⟨rfl, e⟩ := hx k s f hk
  rw [show (s != false) = s by cases s <;> rfl]
  exact e
theorem stL_write (l : List (Bool × Bool)) {k : Nat} {s f : Bool} (h : l[k]? = some (s, f)) : stL (l.set k (s, true)) = stL l := by
  apply stL_map
  rw [List.map_set]
  exact list_set_same _ _ _ (by rw [List.getElem?_map, h]; rfl)
theorem stL_load (l : List (Bool × Bool)) : stL (l.map fun p => (p.1, false)) = stL l := by
  apply stL_map
  rw [List.map_map]
  rfl
end Go.Proofs.Ytmdmhjcdaejlkaa
