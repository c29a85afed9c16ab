/- Contracts of the device: Write. -/
import Derived.Test.YtlbpmboknmbcgaaDiskR
import Derived.Test.YtlbpmboknmbcgaaClone
set_option linter.unusedVariables false
set_option linter.unusedSimpArgs false
namespace Go.Proofs.Ytlbpmboknmbcgaa
open Go.RowKit

/-- m[k] = v on a map from int to slices -/
theorem wp_putI {o : Oper} {a : Act} {W : World} {K : Act → World → Prop} {Q : Exit → Act → World → Prop} {m k v : Operand} {b n : Nat} {f : Int → Value} {i : Int} {u : Value}
    (ho : o.op = .mapUpdate 79 m k v) (hm : a.eval m = .map (some b)) (hk : a.eval k = .int .i64 i) (hv : a.eval v = u) (h : MapI W b n f) (hn : n < 10000000) (hi : (Lit.int .i64 i).wf = true)
    (hK : ∀ W', MapI W' b (n + 1) (updI f i u) → W.grownBy W' (some b) → K (a.put o.dst undef) W') : o.wp Try.prog a W K Q := by
  obtain ⟨W', hrun, h1, h2⟩ := run_put h (by unfold maxLen; omega) i hi u
  unfold Oper.wp execOp
  simp only [ho, hm, hk, hv, Sem.run_bind, Sem.run_pure, hrun, Result.andThen_ok]
  exact hK W' h1 h2
theorem wpl_putI {ops : Array Oper} {rest : List Oper} {o : Oper} {a : Act} {W : World} {Q : Exit → Act → World → Prop} {m k v : Operand} {b n : Nat} {f : Int → Value} {i : Int} {u : Value} (hgd : o.guard = none)
    (ho : o.op = .mapUpdate 79 m k v) (hm : a.eval m = .map (some b)) (hk : a.eval k = .int .i64 i) (hv : a.eval v = u) (h : MapI W b n f) (hn : n < 10000000) (hi : (Lit.int .i64 i).wf = true)
    (hK : ∀ W', MapI W' b (n + 1) (updI f i u) → W.grownBy W' (some b) → wpList Try.prog ops Q rest (a.put o.dst undef) W') : wpList Try.prog ops Q (o :: rest) a W :=
  wpList_plain hgd fun _ hK' => wp_putI ho hm hk hv h hn hi fun W' h1 h2 => hK' _ _ (hK W' h1 h2)
theorem wpl_appOne {ops : Array Oper} {rest : List Oper} {o : Oper} {a : Act} {W : World} {Q : Exit → Act → World → Prop} {s x : Operand} {t e : TypeId} {z v : Value} {size bytes base n c : Nat} {xs news : List Value} {ad : Addr} (hgd : o.guard = none)
    (ho : o.op = .call { callee := .builtin .append, args := #[s, x], argTypes := #[t, t] }) (ht : Try.prog.underlying t = some (.slice e))
    (hi : (Try.prog.info? e).map (fun i => (i.zero, i.size, i.bytes)) = some (some z, size, bytes)) (hz : z.cells.size = size) (hsz : 0 < size) (hby : bytes ≤ 1000)
    (hs : a.eval s = v) (hx : a.eval x = .slice (some ad) 1 c) (hown : W.ownsRow base e size v n xs) (hl : news.length = size) (hc : ∀ j u, news[j]? = some u → W.cell? (ad.add j) = some u) (h1 : ∀ u ∈ news, u.oneCell' = true)
    (hn : n ≤ 1000000) (hbase : base ≤ W.heap.size)
    (hK : ∀ v' W', W'.ownsRow base e size v' (n + 1) (xs ++ news) → W.grownBy W' v.ownBlock → wpList Try.prog ops Q rest (a.put o.dst v') W') : wpList Try.prog ops Q (o :: rest) a W :=
  wpList_plain hgd fun _ hK' => wp_appOne ho ht hi hz hsz hby hs hx hown hl hc h1 hn hbase fun v' W' h1 h2 => hK' _ _ (hK v' W' h1 h2)
theorem info_write : (Try.prog.info? 85).map (fun i => (i.zero, i.size, i.bytes)) = some (some (.agg #[.int .i64 0, .slice none 0 0]), 2, 32) := by kernel_rfl
theorem info_write2 : (Try.prog.info? 85).map (fun i => (i.zero, i.size)) = some (some (.agg #[.int .i64 0, .slice none 0 0]), 2) := by kernel_rfl
theorem copyL_full (zs ys : List UInt8) (h : ys.length = zs.length) : copyL zs ys = ys := by
  unfold copyL
  rw [List.take_of_length_le (by omega), List.drop_of_length_le (by omega), List.append_nil]
theorem fitL_full (n : Int) (ys : List UInt8) (h : ys.length = n.toNat) : fitL n ys = ys := copyL_full _ _ (by rw [List.length_replicate]; exact h)
theorem fitL_fitL (n : Int) (xs : List UInt8) : fitL n (fitL n xs) = fitL n xs := fitL_full n _ (fitL_length n xs)
/-- a write that is done -/
def Dk.write (D : Dk) (at_ : Int) (xs : List UInt8) : Dk :=
  if D.has at_ then { D.step.noted ⟨2, at_, headL (fitL D.size xs), fitL D.size xs⟩ with now := fun j => if j = at_ then fitL D.size xs else D.now j, cN := D.cN + 1, loose := D.loose ++ [(at_, fitL D.size xs)] }
  else D.step.noted ⟨2, at_, headL (fitL D.size xs), fitL D.size xs⟩
theorem c_writeNo (W : World) (base b : Nat) (D : Dk) (at_ : Int) (v : Value) (h : DiskAt W base b D) (hg : D.goes = true) :
    Calls Try.prog 19 #[.pointer (some ⟨b, 0, none⟩), .int .i64 at_, v] W fun e w' => e = gonePanic ∧ DiskAt w' base b D.dead ∧ DR dTy base W w' := by
  have hc := c_countNo W base b D h hg
  go_enter Try.func19, Try.ntmps19
  go_wp2_with fail
  refine hc.mono ?_
  rintro e w' ⟨rfl, hd, hr⟩
  exact ⟨rfl, rfl, hd, hr⟩
theorem LooseAt.snoc {W' : World} {base : Nat} {v' u : Value} {l : List (Int × List UInt8)} {x : Int × List UInt8} {vs : List Value} (a1 : vs.length = l.length) (a2 : ∀ (k : Nat) u x, vs[k]? = some u → l[k]? = some x → BytesAt W' base u x.2)
    (a3 : W'.ownsRow base 85 2 v' (l.length + 1) (((l.zip vs).flatMap fun p => [.int .i64 p.1.1, p.2]) ++ [.int .i64 x.1, u]))
    (hu : BytesAt W' base u x.2) : LooseAt W' base v' (l ++ [x]) := by
  refine ⟨vs ++ [u], by simp [a1], fun k w y e1 e2 => ?_, ?_⟩
  · rcases Nat.lt_or_ge k l.length with hk | hk
    · rw [List.getElem?_append_left (by omega)] at e1
      rw [List.getElem?_append_left hk] at e2
      exact a2 k w y e1 e2
    · rw [List.getElem?_append_right (by omega), a1] at e1
      rw [List.getElem?_append_right hk] at e2
      have h0 : k - l.length = 0 := by
        rcases Nat.eq_zero_or_pos (k - l.length) with h | h
        · exact h
        · rw [List.getElem?_eq_none (by simp; omega)] at e2; cases e2
      rw [h0] at e1 e2
      cases e1
      cases e2
      exact hu
  · rw [List.length_append, List.zip_append a1.symm, List.flatMap_append]
    simpa using a3
set_option maxHeartbeats 2000000 in
theorem c_writeYes (W : World) (base b : Nat) (D : Dk) (at_ : Int) (v : Value) (xs : List UInt8) (h : DiskAt W base b D) (hg : D.goes = false) (hk : DkOk D) (hB : base ≤ W.heap.size) (hat : (Lit.int .i64 at_).wf = true) (hv : BytesAt W base v xs) :
    Calls Try.prog 19 #[.pointer (some ⟨b, 0, none⟩), .int .i64 at_, v] W fun e w' => e = .returned (.tuple #[]) ∧ DiskAt w' base b (D.write at_ xs) ∧ DR dTy base W w' := by
  have hc := c_countYes W base b D h hg hk.af
  have hkS : DkOk D.step := ⟨hk.lo, hk.hi, hk.bl, hk.bh, hk.ln, hk.ll, hk.cs, hk.cn, by unfold Dk.step; simp only; have := hk.af; split <;> omega⟩
  have HAT := Lib.hid hat
  clear hat h
  obtain ⟨sz, hsz⟩ : ∃ sz : Nat, D.size = (sz : Int) := ⟨D.size.toNat, by have := hk.lo; omega⟩
  have hs6 : sz ≤ 60000 := by have := hk.hi; omega
  go_enter Try.func19, Try.ntmps19
  go_wp2_with fail
  refine hc.mono ?_
  rintro e w1 ⟨rfl, hd1, hr1⟩
  obtain ⟨mS, mN, lv, tv, hrow, hbb, hbS, hbN, hne, h1, h2, h3, h4⟩ := hd1.out
  have hv1 := hv.keep hr1 (by decide)
  have c1 := hrow.cell 1 rfl
  have hs1 := hr1.below.size
  have hB1 : base ≤ w1.heap.size := by omega
  have eS : D.step.size = (sz : Int) := hsz
  rw [eS] at c1
  obtain ⟨A, c, rfl, q1, q2, q3, q4⟩ := hv1
  unfold maxLen at q2
  have HSZ := Lib.hid hsz
  have hfz : fitL D.size xs = copyL (List.replicate sz 0) xs := by unfold fitL; rw [hsz]; simp
  have HFZ := Lib.hid hfz
  clear hc hrow h1 h2 h3 h4 hsz eS hfz hne q4
  go_upto_region 2 with (at_make; refine wpl_makeB (n := sz) rfl rfl rfl rfl (by omega) ?_; intro w2 ho2 hB2 hs2)
  have hrow2 : Row w2 w1.heap.size (bv (List.replicate sz 0)).toArray 5 := own_row ho2
  have hr2 := q3.below hB2 (Nat.le_refl _)
  go_upto_region 3 with (refine wpl_copyB (xs := List.replicate sz 0) (ys := xs) (cap := sz) rfl rfl (by rw [List.length_replicate]; rfl) rfl hrow2 hr2 ?_; intro w3 y3 hu3)
  have hB3 : Below w1.heap.size w1 w3 := hB2.trans (hu3.below (Nat.le_refl _))
  have hs3 : w1.heap.size < w3.heap.size := by have := hu3.row; have := Row.lt this; omega
  have hf3 : FR [] [] base w1 w3 := FR.of_below hB3 hB1
  have ho3 := row_own (B := w1.heap.size) hu3.row (show _ = sz by rw [copyL_length, List.length_replicate]) (Nat.le_refl _) (by unfold maxLen; omega)
  have hd3 := hd1.dr hf3
  have hlen : (copyL (List.replicate sz 0) xs).length = sz := by rw [copyL_length, List.length_replicate]
  have HL := Lib.hid hlen
  have hr3 : RdB w3 (some ⟨w1.heap.size, 0, none⟩) sz (copyL (List.replicate sz 0) xs) := by
    obtain ⟨A', c', e, -, -, hr⟩ := ho3.form
    rw [hlen] at e hr
    simp only [Value.slice.injEq] at e
    obtain ⟨rfl, -⟩ := e
    exact hr
  have HFL := HFZ.out
  generalize hFL : copyL (List.replicate sz 0) xs = FL at *
  clear hFL hu3 hrow2 ho2 hB2 hs2 hr2 c1 q1 q2 q3
  go_wp2_with fail
  refine (c_clone _ _ _ FL w3 hr3 (by omega)).mono ?_
  rintro e w4 ⟨u, rfl, ho4, hB4⟩
  have hf4 : FR [] [] base w3 w4 := FR.of_below hB4 (by omega)
  have hs4 := hB4.size
  have ho34 := ho3.below hB4
  go_wp2_with fail
  refine (c_diskNote w4 base b D.step 2 at_ _ u FL FL (hd3.dr hf4) (BytesAt.of_own ho34) (BytesAt.of_own ho4) (by omega) (Nat.le_trans hkS.ln (by decide))).mono ?_
  rintro e w5 ⟨rfl, hd5, hr5⟩
  have hB5 := (BytesAt.of_own (base := base) ho34).keep hr5 (by decide)
  have hs5 := hr5.below.size
  have hall5 : DR dTy base W w5 := hr1.trans ((hf3.dr.less (by simp)).trans ((hf4.dr.less (by simp)).trans hr5))
  have hhas : (D.step.noted ⟨2, at_, headL FL, FL⟩).has at_ = D.has at_ := rfl
  have hw0 : D.write at_ xs = if D.has at_ then { D.step.noted ⟨2, at_, headL FL, FL⟩ with now := fun j => if j = at_ then FL else D.now j, cN := D.cN + 1, loose := D.loose ++ [(at_, FL)] } else D.step.noted ⟨2, at_, headL FL, FL⟩ := by unfold Dk.write; rw [HFL]
  have HW := Lib.hid hw0
  clear hd1 hr1 hd3 hf3 ho3 hf4 ho34 ho4 hr5 HFL HFZ hw0
  cases hha : D.has at_ with
  | false =>
    rw [hha] at hhas
    go_wp2_with fail
    refine (c_diskHas w5 base b _ at_ false hd5 hhas).mono ?_
    rintro e w' ⟨rfl, rfl⟩
    go_wp2
    refine bodyPost_ret (results_none rfl _ _ _) rfl ⟨rfl, ?_, hall5⟩
    rw [HW.out, if_neg (by rw [hha]; simp)]
    exact hd5
  | true =>
    rw [hha] at hhas
    go_wp2_with fail
    refine (c_diskHas w5 base b _ at_ true hd5 hhas).mono ?_
    rintro e w' ⟨rfl, rfl⟩
    obtain ⟨mS, mN, lv, tv, hrow, hbb, hbS, hbN, hne, h1, h2, h3, h4⟩ := hd5.out
    have c3 := hrow.cell 3 rfl
    obtain ⟨f, hf, hbt⟩ := h2.out
    have hnN : D.cN < 10000000 := by have := hk.cn; omega
    go_upto_region 6 with (at_mapUpdate; refine wpl_putI rfl rfl rfl rfl rfl hf hnN HAT.out ?_; intro w6 hm6 hg6)
    have hf6 : FR [] [mN] base w5 w6 := FR.of_map hg6 hf.isMap hbN (by simp)
    have hrow6 := hf6.row hrow (by simp)
    have h16 := h1.fr hf6 (by simp) (by simp [hne]) (Nat.le_refl _)
    have h26 : MapB w6 base mN (D.cN + 1) (fun j => if j = at_ then FL else D.now j) := ⟨⟨_, hm6, fun j => by
      unfold updI
      split
      · exact hB5.keep hf6.dr (by simp)
      · exact (hbt j).keep hf6.dr (by simp)⟩⟩
    have h46 := h4.fr hf6 (by simp) (by simp)
    have hB6 := hB5.keep hf6.dr (by simp)
    obtain ⟨vs, a1, a2, a3⟩ := h3.fr hf6 (by simp) (by simp)
    have c4 := hrow6.cell 4 rfl
    have hs6' := hf6.size
    have hb6 : base ≤ w6.heap.size := by omega
    have hln : D.loose.length ≤ 1000000 := by have := hk.ll; omega
    clear c3 hrow h1 h2 h3 h4 hf hbt hm6 hg6 hd5
    go_wp2_with (at_builtin; refine wpl_appOne (base := base) (v := lv) (n := D.loose.length) rfl rfl Try.underlying80 info_write rfl (by decide) (by decide) rfl rfl (World.ownsRow.alloc a3 _) rfl (news_at w6 [.int .i64 at_, .slice (some ⟨w1.heap.size, 0, none⟩) sz sz] 85) (by simp [Value.oneCell']) hln (by simp; omega) ?_; intro v7 w7 ho7 hg7; have hf7 : FR [85] [] base w6 w7 := (FR.of_below (below_alloc (Below.refl _ _) _) hb6).trans (FR.of_own hg7 (World.ownsRow.alloc a3 _) (by decide) (by simp; omega)); have hrow7 := hf7.row hrow6 (by decide); have c4' := hrow7.cell 4 rfl; have fz4 := hrow7.free 4; obtain ⟨A7, c7, rfl, -, -⟩ := own_form ho7)
    have hu8 := upd_cell (j := 4) hrow7 (Value.slice A7 (D.loose.length + 1) c7)
    have hL7 : LooseAt w7 base (.slice A7 (D.loose.length + 1) c7) (D.loose ++ [(at_, FL)]) :=
      LooseAt.snoc a1 (fun k u x e1 e2 => (a2 k u x e1 e2).keep hf7.dr (by decide)) ho7 (hB6.keep hf7.dr (by decide))
    have hS7 := h16.fr hf7 (by decide) (by simp) (Nat.le_refl _)
    have hN7 := h26.fr hf7 (by decide) (by simp) (Nat.le_refl _)
    have hT7 := h46.fr hf7 (by decide) (by decide)
    have ht := disk_turn (D := { D.step.noted ⟨2, at_, headL FL, FL⟩ with now := fun j => if j = at_ then FL else D.now j, cN := D.cN + 1, loose := D.loose ++ [(at_, FL)] }) hrow7 hu8 hbb hS7 hN7 hL7 hT7
    refine bodyPost_end (by simp [results, Try.results19]) rfl ⟨rfl, ?_, hall5.trans ((hf6.dr.less (by simp)).trans ((hf7.dr.less (by decide)).trans ht.1))⟩
    rw [HW.out, if_pos hha]
    exact ⟨⟨mS, mN, _, tv, hu8.row, hbb, hbS, hbN, hne, ht.2.1, ht.2.2.1, ht.2.2.2.1, ht.2.2.2.2⟩⟩
end Go.Proofs.Ytlbpmboknmbcgaa
