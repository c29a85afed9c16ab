/- Frames by type, maps named; an element of any size appended; a copy into a known block. -/
import Derived.Test.YtlbpmboknmbcgaaDiskB
import Derived.Test.YtlbpmboknmbcgaaLoadR
set_option linter.unusedVariables false
set_option linter.unusedSimpArgs false
namespace Go.Proofs.Ytlbpmboknmbcgaa
open Go.RowKit

/-- below 'base' all is as it was; blocks of types not in S, and maps not in M, are as they were -/
structure FR (S : List TypeId) (M : List Nat) (base : Nat) (W W' : World) : Prop where
  dr : DR S base W W'
  maps : ∀ k es cl, W.heap[k]? = some (.map es cl) → k ∉ M → W'.heap[k]? = W.heap[k]?
theorem FR.refl (S : List TypeId) (M : List Nat) (base : Nat) (W : World) : FR S M base W W := ⟨DR.refl _ _ _, fun _ _ _ _ _ => rfl⟩
theorem FR.trans {S : List TypeId} {M : List Nat} {base : Nat} {a b c : World} (h1 : FR S M base a b) (h2 : FR S M base b c) : FR S M base a c :=
  ⟨h1.dr.trans h2.dr, fun k es cl hk hM => by
    have e := h1.maps k es cl hk hM
    rw [← e]
    exact h2.maps k es cl (e.trans hk) hM⟩
theorem FR.of_below {S : List TypeId} {M : List Nat} {base : Nat} {W W' : World} (h : Below W.heap.size W W') (hb : base ≤ W.heap.size) : FR S M base W W' :=
  ⟨DR.of_below h hb, fun k es cl hk _ => h.block k (Array.getElem?_eq_some_iff.1 hk).1⟩
theorem FR.drew {S : List TypeId} {M : List Nat} {base : Nat} {W W' : World} (h : FR S M base W W') : FR S M base W W'.drew := ⟨h.dr.drew, h.maps⟩
theorem FR.drewN {S : List TypeId} {M : List Nat} {base : Nat} {W W' : World} (h : FR S M base W W') (n : Nat) : FR S M base W (W'.drewN n) := ⟨⟨below_drewN h.dr.below n, h.dr.typ⟩, h.maps⟩
theorem wayF (S : List TypeId) (M : List Nat) (base : Nat) : Way (FR S M base) := ⟨FR.refl S M base, FR.trans, fun w => (FR.refl S M base w).drew⟩
theorem FR.less {S S' : List TypeId} {M M' : List Nat} {base : Nat} {W W' : World} (h : FR S M base W W') (hS : ∀ T ∈ S, T ∈ S') (hM : ∀ T ∈ M, T ∈ M') : FR S' M' base W W' :=
  ⟨h.dr.less hS, fun k es cl hk hm => h.maps k es cl hk (fun q => hm (hM k q))⟩
theorem FR.of_upd {S : List TypeId} {M : List Nat} {base g : Nat} {c old : Array Value} {T : TypeId} {W W' : World} (hu : Upd g c T W W') (hr : Row W g old T) (hT : T ∈ S) (hb : base ≤ g) : FR S M base W W' :=
  ⟨DR.of_upd hu hr hT hb, fun k es cl hk _ => hu.rest k (fun e => by subst e; have := hk.symm.trans hr; cases this)⟩
theorem FR.of_own {S : List TypeId} {M : List Nat} {base n : Nat} {e : TypeId} {size : Nat} {v : Value} {xs : List Value} {W W' : World} (hg : W.grownBy W' v.ownBlock) (ho : W.ownsRow base e size v n xs) (hT : e ∈ S) (hb : base ≤ W.heap.size) : FR S M base W W' :=
  ⟨DR.of_own hg ho hT hb, fun k es cl hk _ => hg.block k (Array.getElem?_eq_some_iff.1 hk).1 (fun e' => by
    rcases ho.2 with ⟨rfl, _⟩ | ⟨g, cap, cur, rfl, hbg, hh, _⟩
    · simp [Value.ownBlock] at e'
    · simp [Value.ownBlock] at e'
      subst e'
      rw [hh] at hk
      cases hk)⟩
theorem FR.of_map {S : List TypeId} {M : List Nat} {base b : Nat} {W W' : World} (hg : W.grownBy W' (some b)) (hm : ∃ es cl, W.heap[b]? = some (.map es cl)) (hb : base ≤ b) (hM : b ∈ M) : FR S M base W W' :=
  ⟨DR.of_map hg hm hb, fun k es cl hk hk' => hg.block k (Array.getElem?_eq_some_iff.1 hk).1 (fun e => by cases e; exact hk' hM)⟩
theorem FR.size {S : List TypeId} {M : List Nat} {base : Nat} {W W' : World} (h : FR S M base W W') : W.heap.size ≤ W'.heap.size := h.dr.below.size
theorem FR.row {S : List TypeId} {M : List Nat} {base b : Nat} {W W' : World} {c : Array Value} {T : TypeId} (h : FR S M base W W') (hr : Row W b c T) (hT : T ∉ S) : Row W' b c T := h.dr.typ _ _ _ _ hr hT
theorem FR.cell {S : List TypeId} {M : List Nat} {base b j : Nat} {W W' : World} {c : Array Value} {T : TypeId} (h : FR S M base W W') (hr : Row W b c T) (hT : T ∉ S) {v : Value} (hv : c[j]? = some v) : W'.cell? ⟨b, j, none⟩ = some v := (h.row hr hT).cell j hv
theorem own_fr {S : List TypeId} {M : List Nat} {base B n : Nat} {e : TypeId} {size : Nat} {v : Value} {xs : List Value} {W W' : World} (h : W.ownsRow B e size v n xs) (hf : FR S M base W W') (he : e ∉ S) : W'.ownsRow B e size v n xs := by
  refine ⟨h.1, ?_⟩
  rcases h.2 with h | ⟨g, cap, cur, hv, hg, hh, r⟩
  · exact .inl h
  · exact .inr ⟨g, cap, cur, hv, hg, hf.dr.typ _ _ _ _ hh he, r⟩
theorem MapI.isMap {W : World} {b n : Nat} {f : Int → Value} (h : MapI W b n f) : ∃ es cl, W.heap[b]? = some (.map es cl) := by
  obtain ⟨D, ⟨es, cl, hb, _⟩, _⟩ := h.out
  exact ⟨es, cl, hb⟩
theorem MapB.isMap {W : World} {base b n : Nat} {f : Int → List UInt8} (h : MapB W base b n f) : ∃ es cl, W.heap[b]? = some (.map es cl) := by
  obtain ⟨g, hg, _⟩ := h.out
  exact hg.isMap
theorem MapB.fr {S : List TypeId} {M : List Nat} {base bs b n : Nat} {m : Int → List UInt8} {W W' : World} (h : MapB W base b n m) (hf : FR S M bs W W') (hS : 5 ∉ S) (hb : b ∉ M) (hbs : base ≤ bs) : MapB W' base b n m := by
  obtain ⟨es, cl, hm⟩ := h.isMap
  obtain ⟨f, hf', hbt⟩ := h.out
  refine ⟨f, hf'.below (hf.maps b es cl hm hb), fun i => ?_⟩
  obtain ⟨A, c, e, h1, h2, hr, hq⟩ := hbt i
  have h3 := BytesAt.keep (base := bs) ⟨A, c, e, h1, h2, hr, fun ad ea h0 => (hq ad ea h0).imp (fun h => by omega) id⟩ hf.dr hS
  obtain ⟨A', c', e', h1', h2', hr', _⟩ := h3
  rw [e] at e'
  simp only [Value.slice.injEq] at e'
  obtain ⟨rfl, -, rfl⟩ := e'
  exact ⟨A, c, e, h1, h2, hr', fun ad ea h0 => (hq ad ea h0).imp id fun ⟨cs, fr, h⟩ => ⟨cs, fr, hf.dr.typ _ _ _ _ h hS⟩⟩
theorem LooseAt.fr {S : List TypeId} {M : List Nat} {base : Nat} {v : Value} {l : List (Int × List UInt8)} {W W' : World} (h : LooseAt W base v l) (hf : FR S M base W W') (hS : 5 ∉ S) (hw : 85 ∉ S) : LooseAt W' base v l := by
  obtain ⟨vs, a1, a2, a3⟩ := h
  exact ⟨vs, a1, fun k u x e1 e2 => (a2 k u x e1 e2).keep hf.dr hS, own_fr a3 hf hw⟩
theorem TraceAt.fr {S : List TypeId} {M : List Nat} {base : Nat} {v : Value} {l : List Ev} {W W' : World} (h : TraceAt W base v l) (hf : FR S M base W W') (hS : 5 ∉ S) (hw : 32 ∉ S) : TraceAt W' base v l := by
  obtain ⟨vs, a1, a2, a3⟩ := h
  exact ⟨vs, a1, fun k u x e1 e2 => ⟨(a2 k u x e1 e2).1.keep hf.dr hS, (a2 k u x e1 e2).2⟩, own_fr a3 hf hw⟩
/-- one element of any size appended, at a single operation -/
theorem wp_appOne {o : Oper} {a : Act} {W : World} {K : Act → World → Prop} {Q : Exit → Act → World → Prop} {s x : Operand} {t e : TypeId} {z v : Value} {size bytes base n c : Nat} {xs news : List Value} {ad : Addr}
    (ho : o.op = .call { callee := .builtin .append, args := #[s, x], argTypes := #[t, t] }) (ht : Try.prog.underlying t = some (.slice e))
    (hi : (Try.prog.info? e).map (fun i => (i.zero, i.size, i.bytes)) = some (some z, size, bytes)) (hz : z.cells.size = size) (hsz : 0 < size) (hby : bytes ≤ 1000)
    (hs : a.eval s = v) (hx : a.eval x = .slice (some ad) 1 c) (hown : W.ownsRow base e size v n xs) (hl : news.length = size) (hc : ∀ j u, news[j]? = some u → W.cell? (ad.add j) = some u) (h1 : ∀ u ∈ news, u.oneCell' = true)
    (hn : n ≤ 1000000) (hbase : base ≤ W.heap.size)
    (hK : ∀ v' W', W'.ownsRow base e size v' (n + 1) (xs ++ news) → W.grownBy W' v.ownBlock → K (a.put o.dst v') W') : o.wp Try.prog a W K Q := by
  obtain ⟨i, hi1, hi2⟩ := Option.map_eq_some_iff.1 hi
  simp only [Prod.mk.injEq] at hi2
  obtain ⟨z0, z1, z2⟩ := hi2
  have hb : (n + 1) * bytes ≤ 140737488355328 := Nat.le_trans (Nat.mul_le_mul (show n + 1 ≤ 1000001 by omega) hby) (by decide)
  obtain ⟨v', w', hrun, h2, h3, _, h5⟩ := run_append_own_at (P := Try.prog) (w := W) base t o.type e i z size bytes ht hi1 z0 z1 z2 hz hsz v n xs hown ad 1 c news (by omega) hc h1 (by unfold maxLen; omega) hb hbase
  unfold Oper.wp execOp
  simp only [ho, resolve, invoke, builtin, Sem.run_bind, Sem.run_pure, Result.andThen_ok, List.map_toArray, List.map_cons, List.map_nil, hs, hx, hrun]
  exact hK v' w' h2 h3
theorem news_at (W : World) (vs : List Value) (e : TypeId) : ∀ j u, vs[j]? = some u → (W.alloc (.cells vs.toArray e)).cell? ((⟨W.heap.size, 0, none⟩ : Addr).add j) = some u := by
  intro j u hu
  have h0 : 0 < vs.length := by
    rcases Nat.eq_zero_or_pos vs.length with h | h
    · have : vs = [] := List.eq_nil_of_length_eq_zero h
      subst this
      cases hu
    · exact h
  obtain ⟨ad, ea, hc⟩ := (rd_lit W vs e (0, 0) vs.length rfl).2 h0
  cases ea
  exact hc j u hu
end Go.Proofs.Ytlbpmboknmbcgaa
