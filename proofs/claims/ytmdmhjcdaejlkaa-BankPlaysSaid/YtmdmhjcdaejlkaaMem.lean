/- Words for memory that all walks of this seat use: a slice that reads as a list, a row of the call's own, append and conversion of bytes. -/
import Derived.WalkKit
import Derived.WalkLawsBesides
import Derived.WalkSpells
import Derived.Deep.QuietTactic
import Derived.BigQuiet
import Derived.Laws.BytesArg
import Derived.Maps.AppendAt
import Derived.Deep.AppendLies
set_option linter.unusedVariables false
set_option linter.unusedSimpArgs false
namespace Go.Proofs.Ytmdmhjcdaejlkaa
open Go.RowKit

/-! ### a slice of one-cell elements that reads as a list; nil let in -/
def Rd (w : World) (A : Option Addr) (n : Nat) (vs : List Value) : Prop :=
  vs.length = n ∧ (0 < n → ∃ ad, A = some ad ∧ ∀ j v, vs[j]? = some v → w.cell? (ad.add j) = some v)
/-- bytes as values -/
def bv (xs : List UInt8) : List Value := xs.map fun b => .int .u8 (b.toNat : Int)
theorem bv_length (xs : List UInt8) : (bv xs).length = xs.length := by simp [bv]
theorem bv_append (xs ys : List UInt8) : bv (xs ++ ys) = bv xs ++ bv ys := by simp [bv]
theorem bv_get (xs : List UInt8) (j : Nat) : (bv xs)[j]? = xs[j]?.map fun b => .int .u8 (b.toNat : Int) := by simp [bv]
theorem bv_take (xs : List UInt8) (k : Nat) : bv (xs.take k) = (bv xs).take k := by simp [bv, List.map_take]
theorem bv_drop (xs : List UInt8) (k : Nat) : bv (xs.drop k) = (bv xs).drop k := by simp [bv, List.map_drop]
theorem bv_cells (xs : List UInt8) : ∀ u ∈ bv xs, u.oneCell' = true := by
  intro u hu
  obtain ⟨b, _, rfl⟩ := List.mem_map.1 hu
  rfl
abbrev RdB (w : World) (A : Option Addr) (n : Nat) (xs : List UInt8) : Prop := Rd w A n (bv xs)

theorem ad_block (a : Addr) (n : Nat) : (a.add n).block = a.block := by unfold Addr.add; split <;> rfl
theorem ad_add (a : Addr) (i j : Nat) : (a.add i).add j = a.add (i + j) := by
  unfold Addr.add
  by_cases hi : i = 0
  · simp [hi]
  · by_cases hj : j = 0
    · simp [hj]
    · simp [hi, hj, Nat.add_assoc]
theorem ad_none (b o j : Nat) : (⟨b, o, none⟩ : Addr).add j = ⟨b, o + j, none⟩ := by
  unfold Addr.add
  by_cases hj : j = 0 <;> simp [hj]

theorem Rd.nil_ (w : World) (A : Option Addr) : Rd w A 0 [] := ⟨rfl, fun h => absurd h (by omega)⟩
theorem Rd.at_ {w : World} {A : Option Addr} {n : Nat} {vs : List Value} (h : Rd w A n vs) {j : Nat} (hj : j < n) :
    ∃ ad v, A = some ad ∧ vs[j]? = some v ∧ w.cell? (ad.add j) = some v := by
  obtain ⟨ad, e, hc⟩ := h.2 (by omega)
  have hl : j < vs.length := by rw [h.1]; exact hj
  exact ⟨ad, vs[j], e, List.getElem?_eq_getElem hl, hc j _ (List.getElem?_eq_getElem hl)⟩
theorem RdB.at_ {w : World} {A : Option Addr} {n : Nat} {xs : List UInt8} (h : RdB w A n xs) {j : Nat} (hj : j < n) :
    ∃ ad, A = some ad ∧ w.cell? (ad.add j) = some (.int .u8 ((xs[j]?.getD 0).toNat : Int)) := by
  obtain ⟨ad, v, e, hv, hc⟩ := Rd.at_ h hj
  refine ⟨ad, e, ?_⟩
  rw [bv_get] at hv
  cases hx : xs[j]? with
  | none => rw [hx] at hv; cases hv
  | some b => rw [hx] at hv; cases hv; exact hc
theorem RdB.len {w : World} {A : Option Addr} {n : Nat} {xs : List UInt8} (h : RdB w A n xs) : xs.length = n := by rw [← h.1, bv_length]
theorem Rd.block_lt {w : World} {n : Nat} {vs : List Value} {ad : Addr} (h : Rd w (some ad) n vs) (hn : 0 < n) : ad.block < w.heap.size := by
  obtain ⟨ad', v, e, _, hc⟩ := h.at_ hn
  cases e
  have := World.block_lt_of_cell? w _ hc
  rwa [ad_block] at this
/-- what is read stays where the cells of its block stay -/
theorem Rd.keep {w w' : World} {A : Option Addr} {n : Nat} {vs : List Value} (h : Rd w A n vs)
    (hk : ∀ ad, A = some ad → ∀ j, j < n → w'.cell? (ad.add j) = w.cell? (ad.add j)) : Rd w' A n vs :=
  ⟨h.1, fun hn => by
    obtain ⟨ad, e, hc⟩ := h.2 hn
    refine ⟨ad, e, fun j v hv => ?_⟩
    have hj : j < n := by
      rw [← h.1]
      rcases Nat.lt_or_ge j vs.length with c | c
      · exact c
      · rw [List.getElem?_eq_none c] at hv; cases hv
    rw [hk ad e j hj]
    exact hc j v hv⟩
theorem Rd.below {w w' : World} {A : Option Addr} {n : Nat} {vs : List Value} {B : Nat} (h : Rd w A n vs) (hb : Below B w w') (hB : w.heap.size ≤ B) : Rd w' A n vs :=
  h.keep fun ad e j hj => by
    subst e
    exact hb.cell (by have := h.block_lt (by omega); rw [ad_block]; omega)
theorem Rd.cut {w : World} {A : Option Addr} {n : Nat} {vs : List Value} (h : Rd w A n vs) {k : Nat} (hk : k ≤ n) : Rd w A k (vs.take k) :=
  ⟨by rw [List.length_take, h.1]; omega, fun h0 => by
    obtain ⟨ad, e, hc⟩ := h.2 (by omega)
    exact ⟨ad, e, fun j v hv => hc j v (by rw [List.getElem?_take] at hv; split at hv; exact hv; cases hv)⟩⟩
theorem Rd.from_ {w : World} {ad : Addr} {n : Nat} {vs : List Value} (h : Rd w (some ad) n vs) {k : Nat} (hk : k ≤ n) : Rd w (some (ad.add k)) (n - k) (vs.drop k) :=
  ⟨by rw [List.length_drop, h.1], fun h0 => by
    obtain ⟨ad', e, hc⟩ := h.2 (by omega)
    cases e
    exact ⟨_, rfl, fun j v hv => by rw [ad_add]; exact hc _ _ (by rw [List.getElem?_drop] at hv; exact hv)⟩⟩
/-- the same, of whatever address, where nothing is left -/
theorem Rd.end_ {w : World} {A A' : Option Addr} {n : Nat} {vs : List Value} (h : Rd w A n vs) : Rd w A' (n - n) (vs.drop n) :=
  ⟨by rw [List.length_drop, h.1], fun h0 => absurd h0 (by omega)⟩

/-! ### rows of the call's own -/
theorem Rd.of_own {w : World} {base : Nat} {e : TypeId} {c n : Nat} {A : Option Addr} {vs : List Value} (h : w.ownsRow base e 1 (.slice A n c) n vs) : Rd w A n vs := by
  have hl : vs.length = n := by have := h.1; simpa using this
  refine ⟨hl, fun hn => ?_⟩
  rcases h.2 with ⟨_, h0⟩ | ⟨g, cap, cur, hv, _, hh, _, _, _, ht⟩
  · omega
  · simp only [Value.slice.injEq] at hv
    obtain ⟨rfl, _, _⟩ := hv
    exact ⟨_, rfl, fun j v hv => h.cells (g := g) rfl j v hv⟩
theorem own_form {w : World} {base n : Nat} {e : TypeId} {size : Nat} {v : Value} {xs : List Value} (h : w.ownsRow base e size v n xs) : ∃ A c, v = .slice A n c ∧ n ≤ c ∧ c ≤ maxLen := by
  rcases h.2 with ⟨rfl, rfl⟩ | ⟨g, cap, cur, rfl, _, _, h1, h2, _⟩
  · exact ⟨none, 0, rfl, Nat.le_refl _, Nat.zero_le _⟩
  · exact ⟨_, cap, rfl, h1, h2⟩
theorem own_base {w : World} {base : Nat} {e : TypeId} {size n : Nat} {v : Value} {xs : List Value} (h : w.ownsRow base e size v n xs) (k : Nat) (hk : v.ownBlock = some k) : base ≤ k := by
  rcases h.2 with ⟨rfl, _⟩ | ⟨g, cap, cur, rfl, hb, _⟩
  · simp [Value.ownBlock] at hk
  · have : g = k := by simpa [Value.ownBlock] using hk
    omega
theorem own_below {w w' : World} {base : Nat} {e : TypeId} {size n : Nat} {v : Value} {xs : List Value} (h : w.ownsRow base e size v n xs) (hb : Below w.heap.size w w') : w'.ownsRow base e size v n xs := by
  refine ⟨h.1, ?_⟩
  rcases h.2 with h | ⟨g, cap, cur, hv, hg, hh, r⟩
  · exact .inl h
  · exact .inr ⟨g, cap, cur, hv, hg, by rw [hb.block g (Array.getElem?_eq_some_iff.1 hh).1]; exact hh, r⟩
theorem own_mono {w : World} {base base' : Nat} {e : TypeId} {size n : Nat} {v : Value} {xs : List Value} (h : w.ownsRow base e size v n xs) (hb : base' ≤ base) : w.ownsRow base' e size v n xs := by
  refine ⟨h.1, ?_⟩
  rcases h.2 with h | ⟨g, cap, cur, hv, hg, r⟩
  · exact .inl h
  · exact .inr ⟨g, cap, cur, hv, by omega, r⟩

/-- bytes of the call's own, from block B on -/
def OwnB (w : World) (B : Nat) (e : TypeId) (v : Value) (xs : List UInt8) : Prop := w.ownsRow B e 1 v xs.length (bv xs)
theorem OwnB.nil_ (w : World) (B : Nat) (e : TypeId) : OwnB w B e (.slice none 0 0) [] := ⟨by simp [bv], .inl ⟨rfl, rfl⟩⟩
theorem OwnB.form {w : World} {B : Nat} {e : TypeId} {v : Value} {xs : List UInt8} (h : OwnB w B e v xs) : ∃ A c, v = .slice A xs.length c ∧ xs.length ≤ c ∧ c ≤ maxLen ∧ RdB w A xs.length xs := by
  obtain ⟨A, c, rfl, h1, h2⟩ := own_form h
  exact ⟨A, c, rfl, h1, h2, Rd.of_own h⟩
theorem OwnB.below {w w' : World} {B : Nat} {e : TypeId} {v : Value} {xs : List UInt8} (h : OwnB w B e v xs) (hb : Below w.heap.size w w') : OwnB w' B e v xs := own_below h hb
theorem OwnB.mono {w : World} {B B' : Nat} {e : TypeId} {v : Value} {xs : List UInt8} (h : OwnB w B e v xs) (hb : B' ≤ B) : OwnB w B' e v xs := own_mono h hb

/-! ### the world -/
theorem below_then {B : Nat} {w w1 w2 : World} (h : Below B w w1) (hB : B ≤ w1.heap.size) (k : Below w1.heap.size w1 w2) : Below B w w2 := h.trans (k.mono hB)
theorem below_alloc {w W : World} (h : Below w.heap.size w W) (o : Obj) : Below w.heap.size w (W.alloc o) := h.alloc h.size o
theorem below_drew {B : Nat} {a w : World} (h : Below B a w) : Below B a w.drew := ⟨h.os, h.tape, h.output, h.size, h.block⟩
theorem below_drewN {B : Nat} {a w : World} (h : Below B a w) (n : Nat) : Below B a (w.drewN n) := ⟨h.os, h.tape, h.output, h.size, h.block⟩
theorem below_two {a b c : World} (h1 : Below a.heap.size a b) (h2 : Below b.heap.size b c) : Below a.heap.size a c := below_then h1 h1.size h2
theorem below3 {a b c d : World} (h1 : Below a.heap.size a b) (h2 : Below b.heap.size b c) (h3 : Below c.heap.size c d) : Below a.heap.size a d := below_two (below_two h1 h2) h3
/-- the walk's two rules behind a contract -/
theorem bcell {W w1 : World} (hb : Below W.heap.size W w1) : (∀ b o, b < W.heap.size → w1.cell? ⟨b, o, none⟩ = W.cell? ⟨b, o, none⟩) ∧ (∀ b o, b < W.heap.size → w1.frozen? ⟨b, o, none⟩ = W.frozen? ⟨b, o, none⟩) :=
  ⟨fun b o h => hb.cell (p := ⟨b, o, none⟩) h, fun b o h => hb.frozen (p := ⟨b, o, none⟩) h⟩

/-! ### bytes to a string -/
def strB (xs : List UInt8) : ByteArray := ⟨xs.toArray⟩
theorem strOf_bv (xs : List UInt8) : strOfNums (xs.map fun b => (b.toNat : Int)) = strB xs := by
  unfold strOfNums strB
  congr 1
  simp only [List.map_map]
  congr 1
  rw [List.map_congr_left (g := id)]
  · simp
  · intro b _; simp
theorem strB_inj {xs ys : List UInt8} (h : strB xs = strB ys) : xs = ys := by
  have := congrArg (fun b => b.data.toList) h
  simpa [strB] using this
theorem run_str {P : Program} (w : World) (src e : TypeId) (hs : P.underlying src = some (.slice e)) (he : P.underlying e = some (.int .u8)) (A : Option Addr) (n cap : Nat) (xs : List UInt8) (h : RdB w A n xs) :
    ∀ dst, P.underlying dst = some .string → (convert src dst (.slice A n cap)).run P w = .ok (.string (strB xs)) w := by
  intro dst hd
  have hl := RdB.len h
  cases A with
  | none =>
    have hn : n = 0 := by
      rcases Nat.eq_zero_or_pos n with c | c
      · exact c
      · obtain ⟨ad, e, _⟩ := h.2 c; cases e
    have hx : xs = [] := List.eq_nil_of_length_eq_zero (by omega)
    subst hx
    exact run_convert_bytes_nil w src e hs he n cap dst hd
  | some ad =>
    have hk : (loadCells ad n).run P w = .ok ((xs.map fun b => (b.toNat : Int)).map (Value.int .u8)).toArray w := by
      have := run_loadCells_list (P := P) w ad (bv xs) (fun j v hj => by
        have hjl : j < n := by
          rw [← h.1]
          rcases Nat.lt_or_ge j (bv xs).length with c | c
          · exact c
          · rw [List.getElem?_eq_none c] at hj; cases hj
        obtain ⟨ad', e, hc⟩ := h.2 (by omega)
        cases e
        exact hc j v hj)
      rw [h.1] at this
      rw [List.map_map]
      exact this
    rw [run_convert_bytes_string w src dst e _ n cap hs he hd, run_bytesToString w _ n cap _ hk, foldl_push_bytes]
    rw [show strB xs = strOfNums (xs.map fun b => (b.toNat : Int)) from (strOf_bv xs).symm]
    simp [strOfNums, ByteArray.empty, ByteArray.emptyWithCapacity]
    rfl

/-! ### append onto a row of the call's own: 'append(v, x...)', the source nil, empty or not -/
section
variable {P : Program} {ops : Array Oper} {rest : List Oper} {o : Oper} {a : Act} {Q : Exit → Act → World → Prop}

theorem run_app (w : World) (base : Nat) (t ty e : TypeId) (z : Value) (bytes : Nat) (ht : P.underlying t = some (.slice e))
    (hi : (P.info? e).map (fun i => (i.zero, i.size, i.bytes)) = some (some z, 1, bytes)) (hz : z.cells.size = 1)
    (v : Value) (xs : List Value) (hown : w.ownsRow base e 1 v xs.length xs) (A : Option Addr) (m c : Nat) (ys : List Value) (hr : Rd w A m ys) (h1 : ∀ u ∈ ys, u.oneCell' = true)
    (h63 : xs.length + m ≤ maxLen) (hb : (xs.length + m) * bytes ≤ 140737488355328) (hbase : base ≤ w.heap.size) :
    ∃ v' w', (Builtin.append_ #[t, t] ty #[v, .slice A m c]).run P w = .ok v' w' ∧ w'.ownsRow base e 1 v' (xs ++ ys).length (xs ++ ys) ∧ w.grownBy w' v.ownBlock ∧
      (v'.ownBlock = v.ownBlock ∨ v'.ownBlock = some w.heap.size) := by
  obtain ⟨i, hi1, hi2⟩ := Option.map_eq_some_iff.1 hi
  simp only [Prod.mk.injEq] at hi2
  obtain ⟨z0, z1, z2⟩ := hi2
  have hlen : (xs ++ ys).length = xs.length + m := by rw [List.length_append, hr.1]
  rw [hlen]
  cases A with
  | none =>
    have hm : m = 0 := by
      rcases Nat.eq_zero_or_pos m with h0 | h0
      · exact h0
      · obtain ⟨ad, h, _⟩ := hr.2 h0
        cases h
    subst hm
    have hn : ys = [] := List.eq_nil_of_length_eq_zero hr.1
    subst hn
    refine ⟨v, w, ?_, by simpa using hown, ⟨rfl, rfl, rfl, Nat.le_refl _, fun _ _ _ => rfl⟩, .inl rfl⟩
    rcases hown.2 with ⟨rfl, h0⟩ | ⟨g, cap, cur, rfl, _, _, hnc, _⟩
    · simp [Builtin.append_, run_underlying ht, sizeOf, typeInfo, hi1, Builtin.lenOf, Builtin.firstCells]
    · simp [Builtin.append_, run_underlying ht, sizeOf, typeInfo, hi1, Builtin.lenOf, Builtin.firstCells, hnc, storeCells]
  | some ad =>
    have hc : ∀ j u, ys[j]? = some u → w.cell? (ad.add j) = some u := by
      intro j u hu
      rcases Nat.eq_zero_or_pos m with h0 | h0
      · have hn : ys = [] := List.eq_nil_of_length_eq_zero (by rw [hr.1, h0])
        subst hn
        cases hu
      · obtain ⟨ad', h, hc⟩ := hr.2 h0
        cases h
        exact hc j u hu
    obtain ⟨v', w', hrun, h2, h3, _, h5⟩ := run_append_own_at (P := P) w base t ty e i z 1 bytes ht hi1 z0 z1 z2 hz (by decide) v xs.length xs hown ad m c ys (by rw [hr.1, Nat.mul_one]) hc h1 h63 hb hbase
    exact ⟨v', w', hrun, h2, h3, h5⟩

theorem wp_app (w : World) {K : Act → World → Prop} (s x : Operand) (t : TypeId)
    (ho : o.op = .call { callee := .builtin .append, args := #[s, x], argTypes := #[t, t] })
    (base : Nat) (e : TypeId) (z : Value) (bytes : Nat) (ht : P.underlying t = some (.slice e))
    (hi : (P.info? e).map (fun i => (i.zero, i.size, i.bytes)) = some (some z, 1, bytes)) (hz : z.cells.size = 1)
    (v : Value) (xs : List Value) (hs : a.eval s = v) (hown : w.ownsRow base e 1 v xs.length xs) (A : Option Addr) (m c : Nat) (ys : List Value) (hx : a.eval x = .slice A m c) (hr : Rd w A m ys) (h1 : ∀ u ∈ ys, u.oneCell' = true)
    (h63 : xs.length + m ≤ maxLen) (hb : (xs.length + m) * bytes ≤ 140737488355328) (hbase : base ≤ w.heap.size)
    (h : ∀ v' w', w'.ownsRow base e 1 v' (xs ++ ys).length (xs ++ ys) → w.grownBy w' v.ownBlock → (v'.ownBlock = v.ownBlock ∨ v'.ownBlock = some w.heap.size) → K (a.put o.dst v') w') : o.wp P a w K Q := by
  obtain ⟨v', w', hrun, h2, h3, h4⟩ := run_app (P := P) w base t o.type e z bytes ht hi hz v xs hown A m c ys hr h1 h63 hb hbase
  unfold Oper.wp execOp
  simp only [ho, resolve, invoke, builtin, Sem.run_bind, Sem.run_pure, Result.andThen_ok, List.map_toArray, List.map_cons, List.map_nil, hs, hx, hrun]
  exact h v' w' h2 h3 h4

/-- behind 'at_builtin' in a plain region -/
theorem wpl_app (w : World) (hgd : o.guard = none) (s x : Operand) (t : TypeId)
    (ho : o.op = .call { callee := .builtin .append, args := #[s, x], argTypes := #[t, t] })
    (base : Nat) (e : TypeId) (z : Value) (bytes : Nat) (ht : P.underlying t = some (.slice e))
    (hi : (P.info? e).map (fun i => (i.zero, i.size, i.bytes)) = some (some z, 1, bytes)) (hz : z.cells.size = 1)
    (v : Value) (xs : List Value) (hs : a.eval s = v) (hown : w.ownsRow base e 1 v xs.length xs) (A : Option Addr) (m c : Nat) (ys : List Value) (hx : a.eval x = .slice A m c) (hr : Rd w A m ys) (h1 : ∀ u ∈ ys, u.oneCell' = true)
    (h63 : xs.length + m ≤ maxLen) (hb : (xs.length + m) * bytes ≤ 140737488355328) (hbase : base ≤ w.heap.size)
    (h : ∀ v' w', w'.ownsRow base e 1 v' (xs ++ ys).length (xs ++ ys) → w.grownBy w' v.ownBlock → (v'.ownBlock = v.ownBlock ∨ v'.ownBlock = some w.heap.size) → wpList P ops Q rest (a.put o.dst v') w') : wpList P ops Q (o :: rest) a w :=
  wpList_plain hgd fun _ hK => wp_app w s x t ho base e z bytes ht hi hz v xs hs hown A m c ys hx hr h1 h63 hb hbase fun v' w' h2 h3 h4 => hK _ _ (h v' w' h2 h3 h4)

theorem rd_one (W : World) (u : Value) (e : TypeId) : Rd (W.alloc (.cells #[u] e)) (some ⟨W.heap.size, 0, none⟩) 1 [u] :=
  ⟨rfl, fun _ => ⟨_, rfl, fun j v hj => cell_one_new _ _ _ j v hj⟩⟩

theorem rd_lit (W : World) (vs : List Value) (e : TypeId) (fr : Nat × Nat) (n : Nat) (hn : vs.length = n) : Rd (W.alloc (.cells vs.toArray e fr)) (some ⟨W.heap.size, 0, none⟩) n vs :=
  ⟨hn, fun _ => ⟨_, rfl, fun j v hj => World.news_of_block (cs := vs.toArray) (t := e) (fr := fr) (heap_alloc_new W _) j v (by simpa using hj)⟩⟩
/-- one byte appended to bytes of the call's own: the walk stands behind the box of the one element -/
theorem wpl_push {w0 W : World} (hgd : o.guard = none) (s x : Operand) (t : TypeId)
    (ho : o.op = .call { callee := .builtin .append, args := #[s, x], argTypes := #[t, t] })
    (base : Nat) (e : TypeId) (ht : P.underlying t = some (.slice e))
    (hi : (P.info? e).map (fun i => (i.zero, i.size, i.bytes)) = some (some (.int .u8 0), 1, 1))
    {v : Value} {xs : List UInt8} (HO : OwnB W base e v xs) {b : UInt8} {y : Int} (hy : y = (b.toNat : Int)) (hs : a.eval s = v) (hx : a.eval x = .slice (some ⟨W.heap.size, 0, none⟩) 1 1)
    (HB : Below base w0 W) (hbase : base ≤ W.heap.size) (hl : xs.length + 1 ≤ 140737488355328)
    (h : ∀ v1 w1, OwnB w1 base e v1 (xs ++ [b]) → Below base w0 w1 → W.grownBy w1 v.ownBlock → wpList P ops Q rest (a.put o.dst v1) w1) :
    wpList P ops Q (o :: rest) a (W.alloc (.cells #[.int .u8 y] e)) := by
  subst hy
  have HO' : (W.alloc (.cells #[.int .u8 (b.toNat : Int)] e)).ownsRow base e 1 v (bv xs).length (bv xs) := by
    rw [bv_length]; exact World.ownsRow.alloc HO _
  refine wpl_app (W.alloc _) hgd s x t ho base e (.int .u8 0) 1 ht hi rfl v (bv xs) hs HO' _ 1 1 [.int .u8 (b.toNat : Int)] hx (rd_one W _ e) (by simp [Value.oneCell']) (by rw [bv_length]; simp only [maxLen]; omega) (by rw [bv_length]; omega) (by simp; omega) ?_
  intro v1 w1 hown hg _
  refine h v1 w1 ?_ ((HB.alloc hbase _).grown hg (by simp; omega) (own_base HO)) (World.grownBy.trans (World.grownBy_alloc W _ _) hg)
  unfold OwnB
  rw [bv_append, ← bv_length (xs ++ [b]), bv_append]
  exact hown

/-- bytes appended to bytes of the call's own -/
theorem wpl_cat {w0 W : World} (hgd : o.guard = none) (s x : Operand) (t : TypeId)
    (ho : o.op = .call { callee := .builtin .append, args := #[s, x], argTypes := #[t, t] })
    (base : Nat) (e : TypeId) (ht : P.underlying t = some (.slice e))
    (hi : (P.info? e).map (fun i => (i.zero, i.size, i.bytes)) = some (some (.int .u8 0), 1, 1))
    {v : Value} {xs : List UInt8} (HO : OwnB W base e v xs) (hs : a.eval s = v) {A : Option Addr} {m c : Nat} {ys : List UInt8} (hr : RdB W A m ys) (hx : a.eval x = .slice A m c)
    (HB : Below base w0 W) (hbase : base ≤ W.heap.size) (hl : xs.length + m ≤ 140737488355328)
    (h : ∀ v1 w1, OwnB w1 base e v1 (xs ++ ys) → Below base w0 w1 → W.grownBy w1 v.ownBlock → (v1.ownBlock = v.ownBlock ∨ v1.ownBlock = some W.heap.size) → wpList P ops Q rest (a.put o.dst v1) w1) :
    wpList P ops Q (o :: rest) a W := by
  have HO' : W.ownsRow base e 1 v (bv xs).length (bv xs) := by rw [bv_length]; exact HO
  refine wpl_app W hgd s x t ho base e (.int .u8 0) 1 ht hi rfl v (bv xs) hs HO' A m c (bv ys) hx hr (bv_cells ys) (by rw [bv_length]; simp only [maxLen]; omega) (by rw [bv_length]; omega) hbase ?_
  intro v1 w1 hown hg hat
  refine h v1 w1 ?_ (HB.grown hg hbase (own_base HO)) hg hat
  unfold OwnB
  rw [bv_append, ← bv_length (xs ++ ys), bv_append]
  exact hown
end
end Go.Proofs.Ytmdmhjcdaejlkaa
