/- Sealed blocks as lists of bytes: the stream, the sum, padded texts; what was sealed opens. -/
import Derived.Test.YtmdmhjcdaejlkaaMem
import Derived.Test.YtmdmhjcdaejlkaaLeP
set_option linter.unusedVariables false
namespace Go.Proofs.Ytmdmhjcdaejlkaa
open Go.RowKit

/-! ### the stream, in words of 32 bits -/
def addW (a b : Int) : Int := (a + b) % 4294967296
def xorW (a b : Int) : Int := bits .xor .u32 a b
def rotW (x : Int) (k : Nat) : Int := bits .or .u32 (IntKind.u32.wrap (x * 2 ^ k)) (x / 2 ^ (32 - k))
def qA1 (a b c d : Int) : Int := addW a b
def qD1 (a b c d : Int) : Int := rotW (xorW d (qA1 a b c d)) 16
def qC1 (a b c d : Int) : Int := addW c (qD1 a b c d)
def qB1 (a b c d : Int) : Int := rotW (xorW b (qC1 a b c d)) 12
def qA2 (a b c d : Int) : Int := addW (qA1 a b c d) (qB1 a b c d)
def qD2 (a b c d : Int) : Int := rotW (xorW (qD1 a b c d) (qA2 a b c d)) 8
def qC2 (a b c d : Int) : Int := addW (qC1 a b c d) (qD2 a b c d)
def qB2 (a b c d : Int) : Int := rotW (xorW (qB1 a b c d) (qC2 a b c d)) 7
/-- a row of words after one quarter round at four places -/
def qstep (s : List Int) (q : Nat × Nat × Nat × Nat) : List Int :=
  let a := s.getD q.1 0
  let b := s.getD q.2.1 0
  let c := s.getD q.2.2.1 0
  let d := s.getD q.2.2.2 0
  (((s.set q.1 (qA2 a b c d)).set q.2.1 (qB2 a b c d)).set q.2.2.1 (qC2 a b c d)).set q.2.2.2 (qD2 a b c d)
def quarterL : List (Nat × Nat × Nat × Nat) := [(0, 4, 8, 12), (1, 5, 9, 13), (2, 6, 10, 14), (3, 7, 11, 15), (0, 5, 10, 15), (1, 6, 11, 12), (2, 7, 8, 13), (3, 4, 9, 14)]
def qrows (s : List Int) (n : Nat) : List Int := (quarterL.take n).foldl qstep s
def doubleL (s : List Int) : List Int := qrows s 8
def doubles (s : List Int) : Nat → List Int
  | 0 => s
  | n + 1 => doubleL (doubles s n)
theorem qstep_length (s : List Int) (q : Nat × Nat × Nat × Nat) : (qstep s q).length = s.length := by simp [qstep]
theorem qrows_length (s : List Int) (n : Nat) : (qrows s n).length = s.length := by
  unfold qrows
  generalize quarterL.take n = l
  induction l generalizing s with
  | nil => rfl
  | cons q l ih => rw [List.foldl_cons, ih, qstep_length]
theorem qrows_succ (s : List Int) (n : Nat) (q : Nat × Nat × Nat × Nat) (h : quarterL[n]? = some q) : qrows s (n + 1) = qstep (qrows s n) q := by
  unfold qrows
  obtain ⟨hn, hq⟩ := List.getElem?_eq_some_iff.1 h
  rw [List.take_succ_eq_append_getElem hn, List.foldl_append, hq]
  rfl
theorem doubles_length (s : List Int) (n : Nat) : (doubles s n).length = s.length := by
  induction n with
  | zero => rfl
  | succ n ih => show (doubleL (doubles s n)).length = _; unfold doubleL; rw [qrows_length, ih]
/-- four bytes of a row as a word -/
def wordAt (xs : List UInt8) (i : Nat) : Int := (leN ((xs.drop (4 * i)).take 4) : Nat)
def initW (key nonce : List UInt8) (ctr : Nat) : List Int :=
  [1634760805, 857760878, 2036477234, 1797285236] ++ (List.range 8).map (wordAt key) ++ [(ctr : Int)] ++ (List.range 3).map (wordAt nonce)
theorem initW_length (key nonce : List UInt8) (ctr : Nat) : (initW key nonce ctr).length = 16 := by simp [initW]
/-- a word's four bytes -/
def wbytes (s t : List Int) (i : Nat) : List UInt8 := leP (addW (s.getD i 0) (t.getD i 0)).toNat 4
def blockL (key nonce : List UInt8) (ctr : Nat) : List UInt8 :=
  let s := initW key nonce ctr
  let t := doubles s 10
  (List.range 16).flatMap (wbytes s t)
theorem wbytes_length (s t : List Int) (i : Nat) : (wbytes s t i).length = 4 := leP_length _ _
theorem flat4_length (f : Nat → List UInt8) (hf : ∀ i, (f i).length = 4) (n : Nat) : ((List.range n).flatMap f).length = 4 * n := by
  induction n with
  | zero => rfl
  | succ n ih => rw [List.range_succ, List.flatMap_append, List.length_append, ih]; simp [hf]; omega
theorem blockL_length (key nonce : List UInt8) (ctr : Nat) : (blockL key nonce ctr).length = 64 := flat4_length _ (wbytes_length _ _) 16
/-- byte i of the stream -/
def strmB (key nonce : List UInt8) (i : Nat) : UInt8 := (blockL key nonce (i / 64)).getD (i % 64) 0
def xorL (key nonce xs : List UInt8) : List UInt8 := xs.mapIdx fun i b => b ^^^ strmB key nonce i
theorem xorL_length (key nonce xs : List UInt8) : (xorL key nonce xs).length = xs.length := by simp [xorL]
theorem xorL_xorL (key nonce xs : List UInt8) : xorL key nonce (xorL key nonce xs) = xs := by
  apply List.ext_getElem (by simp [xorL])
  intro i h1 h2
  simp [xorL, UInt8.xor_assoc]
theorem xorL_inj {key nonce xs ys : List UInt8} (h : xorL key nonce xs = xorL key nonce ys) : xs = ys := by
  rw [← xorL_xorL key nonce xs, h, xorL_xorL]

/-! ### the sum -/
def sumStep (h : Int) (c : UInt8) : Int := IntKind.u64.wrap (bits .xor .u64 h (c.toNat : Int) * 1099511628211)
def sumI (xs : List UInt8) : Int := xs.foldl sumStep 14695981039346656037
theorem wrap64_range (x : Int) : 0 ≤ IntKind.u64.wrap x ∧ IntKind.u64.wrap x < 18446744073709551616 := by
  have e : IntKind.u64.wrap x = x % 18446744073709551616 := by simp [IntKind.wrap, IntKind.bits, IntKind.signed]
  rw [e]
  omega
theorem sumI_range (xs : List UInt8) : 0 ≤ sumI xs ∧ sumI xs < 18446744073709551616 := by
  have h : ∀ (ys : List UInt8) (a : Int), (0 ≤ a ∧ a < 18446744073709551616) → 0 ≤ ys.foldl sumStep a ∧ ys.foldl sumStep a < 18446744073709551616 := by
    intro ys
    induction ys with
    | nil => exact fun a ha => ha
    | cons y ys ih => exact fun a ha => ih _ (wrap64_range _)
  exact h xs _ (by omega)
def sumN (xs : List UInt8) : Nat := (sumI xs).toNat
theorem sumN_cast (xs : List UInt8) : ((sumN xs : Nat) : Int) = sumI xs := Int.toNat_of_nonneg (sumI_range xs).1
theorem sumN_lt (xs : List UInt8) : sumN xs < 18446744073709551616 := by have := sumI_range xs; unfold sumN; omega
theorem sumI_snoc (xs : List UInt8) (c : UInt8) : sumI (xs ++ [c]) = sumStep (sumI xs) c := by simp [sumI]

/-! ### padded texts -/
def padL (xs : List UInt8) (most : Nat) : List UInt8 := leP xs.length 2 ++ xs ++ List.replicate (most - xs.length) 0
theorem padL_length {xs : List UInt8} {most : Nat} (h : xs.length ≤ most) : (padL xs most).length = most + 2 := by simp [padL, leP_length]; omega
def zeroL (xs : List UInt8) : Bool := xs.all (· == 0)
theorem zeroL_rep (n : Nat) : zeroL (List.replicate n 0) = true := by simp [zeroL]
theorem zeroL_eq {xs : List UInt8} (h : zeroL xs = true) : xs = List.replicate xs.length 0 := by
  apply List.eq_replicate_of_mem
  intro b hb
  simpa using List.all_eq_true.1 h b hb
def unpadL (b : List UInt8) (most : Nat) : Option (List UInt8) :=
  if b.length = most + 2 ∧ leN (b.take 2) ≤ most ∧ zeroL (b.drop (2 + leN (b.take 2))) = true then some ((b.drop 2).take (leN (b.take 2))) else none
theorem unpadL_padL {xs : List UInt8} {most : Nat} (h : xs.length ≤ most) (hm : most ≤ 60000) : unpadL (padL xs most) most = some xs := by
  have e1 : (padL xs most).take 2 = leP xs.length 2 := by
    unfold padL
    rw [List.append_assoc, List.take_append_of_le_length (by rw [leP_length]; omega), List.take_of_length_le (by rw [leP_length]; omega)]
  have e2 : leN ((padL xs most).take 2) = xs.length := by rw [e1, leN_leP]; omega
  have e3 : (padL xs most).drop 2 = xs ++ List.replicate (most - xs.length) 0 := by
    unfold padL
    rw [List.append_assoc, List.drop_append_of_le_length (by rw [leP_length]; omega), List.drop_of_length_le (by rw [leP_length]; omega), List.nil_append]
  have e4 : (padL xs most).drop (2 + xs.length) = List.replicate (most - xs.length) 0 := by
    rw [← List.drop_drop, e3, List.drop_append_of_le_length (Nat.le_refl _), List.drop_length, List.nil_append]
  unfold unpadL
  rw [e2, e4, if_pos ⟨padL_length h, h, zeroL_rep _⟩, e3, List.take_append_of_le_length (Nat.le_refl _), List.take_length]
theorem unpadL_some {b xs : List UInt8} {most : Nat} (h : unpadL b most = some xs) : b = padL xs most ∧ xs.length ≤ most := by
  unfold unpadL at h
  split at h
  · rename_i hc
    obtain ⟨h1, h2, h3⟩ := hc
    injection h with h
    have hl : xs.length = leN (b.take 2) := by rw [← h, List.length_take, List.length_drop, h1]; omega
    refine ⟨?_, by omega⟩
    unfold padL
    have a1 : leP xs.length 2 = b.take 2 := by
      have := leP_leN (b.take 2)
      rw [List.length_take, h1, Nat.min_eq_left (by omega)] at this
      rw [hl]
      exact this
    have a2 : List.replicate (most - xs.length) 0 = b.drop (2 + leN (b.take 2)) := by
      have := zeroL_eq h3
      rw [this, List.length_drop, h1, hl]
      congr 1
      omega
    rw [a1, a2, ← h, List.append_assoc]
    have a3 : b.drop (2 + leN (b.take 2)) = (b.drop 2).drop (leN (b.take 2)) := by rw [List.drop_drop]
    rw [a3, List.take_append_drop, List.take_append_drop]
  · cases h
theorem padL_inj {xs ys : List UInt8} {most : Nat} (hx : xs.length ≤ most) (hy : ys.length ≤ most) (hm : most ≤ 60000) (h : padL xs most = padL ys most) : xs = ys := by
  have := unpadL_padL hx hm
  rw [h, unpadL_padL hy hm] at this
  exact (Option.some.inj this).symm

/-! ### sealed blocks -/
def headL12 (boot seq : Nat) : List UInt8 := leP boot 4 ++ leP seq 8
theorem headL12_length (boot seq : Nat) : (headL12 boot seq).length = 12 := by simp [headL12, leP_length]
def innerL (h p : List UInt8) : List UInt8 := p ++ leP (sumN (h ++ p)) 8
def sealL (key : List UInt8) (boot seq : Nat) (plain : List UInt8) (size : Nat) : List UInt8 :=
  headL12 boot seq ++ xorL key (headL12 boot seq) (innerL (headL12 boot seq) (padL plain (size - 22)))
/-- whether so long a text fits -/
def fitsB (len : Nat) (size : Int) : Bool := decide (22 ≤ size) && decide ((len : Int) + 22 ≤ size) && decide (size ≤ 60022)
theorem fitsB_iff (len : Nat) (size : Int) : fitsB len size = true ↔ 22 ≤ size ∧ (len : Int) + 22 ≤ size ∧ size ≤ 60022 := by simp [fitsB, and_assoc]
theorem sealL_length {key : List UInt8} {boot seq : Nat} {plain : List UInt8} {size : Nat} (h : plain.length + 22 ≤ size) : (sealL key boot seq plain size).length = size := by
  unfold sealL innerL
  rw [List.length_append, headL12_length, xorL_length, List.length_append, leP_length, padL_length (by omega)]
  omega
theorem sealL_take {key : List UInt8} {boot seq : Nat} {plain : List UInt8} {size : Nat} : (sealL key boot seq plain size).take 12 = headL12 boot seq := by
  unfold sealL
  rw [List.take_append_of_le_length (by rw [headL12_length]; omega), List.take_of_length_le (by rw [headL12_length]; omega)]
theorem sealL_drop {key : List UInt8} {boot seq : Nat} {plain : List UInt8} {size : Nat} : (sealL key boot seq plain size).drop 12 = xorL key (headL12 boot seq) (innerL (headL12 boot seq) (padL plain (size - 22))) := by
  unfold sealL
  rw [List.drop_append_of_le_length (by rw [headL12_length]; omega), List.drop_of_length_le (by rw [headL12_length]; omega), List.nil_append]
def openP (key b : List UInt8) : List UInt8 := (xorL key (b.take 12) (b.drop 12)).take (b.length - 20)
def openS (key b : List UInt8) : List UInt8 := (xorL key (b.take 12) (b.drop 12)).drop (b.length - 20)
/-- whether the sum is met -/
def metB (key b : List UInt8) : Bool := openS key b == leP (sumN (b.take 12 ++ openP key b)) 8
/-- the text of a block; none: it does not open -/
def openL (key b : List UInt8) : Option (List UInt8) :=
  if 22 ≤ b.length ∧ b.length ≤ 60022 ∧ metB key b = true then unpadL (openP key b) (b.length - 22) else none
def bootN (b : List UInt8) : Nat := leN (b.take 4)
def seqN (b : List UInt8) : Nat := leN ((b.take 12).drop 4)
theorem openL_sealL {key : List UInt8} {boot seq : Nat} {plain : List UInt8} {size : Nat} (h : plain.length + 22 ≤ size) (hs : size ≤ 60022) : openL key (sealL key boot seq plain size) = some plain := by
  have hl := sealL_length (key := key) (boot := boot) (seq := seq) h
  have ex : xorL key ((sealL key boot seq plain size).take 12) ((sealL key boot seq plain size).drop 12) = innerL (headL12 boot seq) (padL plain (size - 22)) := by
    rw [sealL_take, sealL_drop, xorL_xorL]
  have hp := padL_length (xs := plain) (most := size - 22) (by omega)
  have e1 : openP key (sealL key boot seq plain size) = padL plain (size - 22) := by
    unfold openP
    rw [ex, hl]
    unfold innerL
    rw [List.take_append_of_le_length (by omega), List.take_of_length_le (by omega)]
  have e2 : openS key (sealL key boot seq plain size) = leP (sumN (headL12 boot seq ++ padL plain (size - 22))) 8 := by
    unfold openS
    rw [ex, hl]
    unfold innerL
    rw [List.drop_append_of_le_length (by omega), List.drop_of_length_le (by omega), List.nil_append]
  unfold openL metB
  rw [e1, e2, sealL_take, hl, if_pos ⟨by omega, hs, by simp⟩]
  exact unpadL_padL (by omega) (by omega)
theorem bootN_sealL {key : List UInt8} {boot seq : Nat} {plain : List UInt8} {size : Nat} (hb : boot < 4294967296) : bootN (sealL key boot seq plain size) = boot := by
  have e : (sealL key boot seq plain size).take 4 = leP boot 4 := by
    have : (sealL key boot seq plain size).take 4 = ((sealL key boot seq plain size).take 12).take 4 := by rw [List.take_take]; rfl
    rw [this, sealL_take]
    unfold headL12
    rw [List.take_append_of_le_length (by rw [leP_length]; omega), List.take_of_length_le (by rw [leP_length]; omega)]
  unfold bootN
  rw [e, leN_leP]
  omega
theorem seqN_sealL {key : List UInt8} {boot seq : Nat} {plain : List UInt8} {size : Nat} (hb : seq < 18446744073709551616) : seqN (sealL key boot seq plain size) = seq := by
  unfold seqN
  rw [sealL_take]
  unfold headL12
  rw [List.drop_append_of_le_length (by rw [leP_length]; omega), List.drop_of_length_le (by rw [leP_length]; omega), List.nil_append]
  exact leN_leP64 _ hb
end Go.Proofs.Ytmdmhjcdaejlkaa
