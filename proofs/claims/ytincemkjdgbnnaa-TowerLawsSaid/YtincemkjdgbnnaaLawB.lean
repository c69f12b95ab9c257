/- Walks: the statements' helps (law06): both. -/
import Derived.Test.YtincemkjdgbnnaaNatR
set_option linter.unusedVariables false
set_option linter.unusedSimpArgs false
namespace Go.Proofs.Ytincemkjdgbnnaa
open Go.RowKit Lm

/-- the whole of a block is written: an operation. -/
theorem wpStW {P : Program} {o : Oper} {a : Act} {w : World} {Q : Exit → Act → World → Prop} {K : Act → World → Prop} (ty : TypeId) (x y : Operand) (ho : o.op = .store ty x y) {b : Nat} {t : TypeId} {L : List Value} (hx : a.eval x = .pointer (some ⟨b, 0, none⟩)) (cs : List Value) (hy : a.eval y = .agg cs.toArray) (hv : VB w b t L)
    (hi : (P.info? ty).map (·.size) = some cs.length) (h1 : cs.all (·.oneCell') = true) (hn : cs.length = L.length) (h : ∀ w', VB w' b t cs → Only w w' b → K (a.put o.dst undef) w') : o.wp P a w K Q := by
  obtain ⟨w', hrun, hv', ho'⟩ := storeA_run (P := P) (off := 0) hv (ty := ty) cs hi h1 (by omega)
  rw [List.take_zero, List.nil_append, Nat.zero_add, hn, List.drop_length, List.append_nil] at hv'
  unfold Oper.wp execOp
  simp only [ho, hx, hy, Sem.run_bind, hrun, Result.andThen_ok, Sem.run_pure]
  exact h w' hv' ho'

/-- the end of 'both': its four results. -/
theorem ret4 {fn : Func} {R : Ending → World → Prop} {a : Act} {w : World} {p q u v : Tmp} (hr : fn.results = #[.tmp q, .cell p 32, .tmp u, .tmp v]) {b : Nat} {L : List Value} {t : TypeId} (hp : a.tmps.getD p undef = .pointer (some ⟨b, 0, none⟩))
    (hv : VB w b t L) (hl2 : L.length = 2) {x y z : Value} (hx : a.tmps.getD q undef = x) (hy : a.tmps.getD u undef = y) (hz : a.tmps.getD v undef = z) (hdf : a.defers = []) (hR : R (.returned (.tuple #[x, .agg L.toArray, y, z])) w) : bodyPost Try.prog fn R .ret a w := by
  refine bodyPost_ret (v := .tuple #[x, .agg L.toArray, y, z]) ?_ hdf hR
  have hl := run_loadVar_row (P := Try.prog) w b t 32 L.toArray (0, 0) _ hv Try.underlying32 rfl (by rw [Try.szF]; simp [hl2])
  simp only [results, hr]
  rw [← hx, ← hy, ← hz]
  rw [Array.getD_eq_getD_getElem?] at hp
  simp [Sem.run_bind, Result.andThen, hl, asAddr, hp]

set_option maxRecDepth 100000 in
set_option maxHeartbeats 1600000 in
theorem both_c (k : Int) (w : World) (hk : isKind k) : Calls Try.prog 12 #[.int .i64 k] w fun e w' =>
    ∃ b bm A c, e = .returned (.tuple #[.pointer (some ⟨b, 0, none⟩), .agg (vF A (kP k) c (ksz k)).toArray, .bool true, .bool false]) ∧ FQ w' b bm (kP k) (kn k) (ksz k) ∧ (digs B32 (kP k)).length ≤ c ∧ Rd w' .u32 A (digs B32 (kP k)) ∧
      Below w.heap.size w w' := by
  have Hnew := hide (fun W => fnew_c k W hk)
  have Hof := hide (fun W => rof_c k W hk)
  go_enter Try.func12, Try.ntmps12
  go_upto_region 5 with (first
    | ((with_reducible refine wpList_alloc (o := ⟨some 3, _, _, _, _, _⟩) ?_ 32 ?_ [.slice none 0 0, .int .i64 0] Try.zrF ?_); rfl; rfl; intro w1 b1 h1 hv1 h3 h4; have hn1 : New w w1 b1 := ⟨by rw [h1]; exact Nat.le_refl _, by rw [h4]; omega, h3⟩; clear h1 h3 h4)
    | (go_at_call 59; refine (Hnew.out w1).mono ?_; rintro e w2 ⟨b, bm, rfl, hF, hg1, hg2, hB⟩; replace hF := hide hF; replace hB := hide hB)
    | (go_at_call 60; refine (Hof.out w2).mono ?_; rintro e w3 ⟨A, c, rfl, hc, hr, hb3⟩; replace hc := hide hc; replace hr := hide hr; replace hb3 := hide hb3)
    | ((with_reducible refine wpList_alloc (o := ⟨some 8, _, _, _, _, _⟩) ?_ 32 ?_ [.slice none 0 0, .int .i64 0] Try.zrF ?_); rfl; rfl; intro w4 b4 h1 hv4 h3 h4; have hn4 : New w3 w4 b4 := ⟨by rw [h1]; exact Nat.le_refl _, by rw [h4]; omega, h3⟩; clear h1 h3 h4)
    | ((with_reducible refine wpList_storeW (o := ⟨none, _, _, _, _, _⟩) ?_ 32 (.tmp 8) (.tmp 18) ?_ ?_ hv4 (vF A (kP k) c (ksz k)) ?_ (szVF _ _ _ _) ?_ ?_ ?_); rfl; rfl; rfl; rfl; rfl; rfl; intro w5 hv5 ho5; replace ho5 := hide ho5))
  have hB12 := below_next hn1.bl hB.out
  have Hb := hide (show w.heap.size ≤ b1 ∧ b1 < b4 ∧ b1 < b ∧ b1 < bm from
    ⟨hn1.lo, Nat.lt_of_lt_of_le hn1.hi (Nat.le_trans (Nat.le_trans hB.out.size hb3.out.size) hn4.lo), Nat.lt_of_lt_of_le hn1.hi hg1, Nat.lt_of_lt_of_le hn1.hi hg2⟩)
  have HB5 := hide (Only.below (below_next (below_next hB12 hb3.out) hn4.bl) ho5.out (by have := Hb.out; omega))
  have Hv1 := hide (ho5.out.vb (((hv1.next hB.out).next hb3.out).next hn4.bl) (by have := Hb.out; omega))
  have Hv5 := hide hv5
  have HF5 := hide ((((hF.out.next hb3.out).next hn4.bl)).only ho5.out (Nat.ne_of_lt (Nat.lt_of_lt_of_le (hF.out.next hb3.out).vb.lt hn4.lo)) (Nat.ne_of_lt (Nat.lt_of_lt_of_le (hF.out.next hb3.out).fb.vb.lt hn4.lo)))
  have HR5 := hide ((((hr.out.toB).next hn4.bl).only ho5.out hn4.lo).rd)
  clear hv1 hv4 hv5
  refine region_do 13 43 [fun v _ => v = .pointer (some ⟨b, 0, none⟩), fun v _ => v = .agg (vF A (kP k) c (ksz k)).toArray, fun v _ => v = .pointer (some ⟨b, 0, none⟩), fun v _ => v = .bool true, fun v _ => v = .bool true, fun v _ => v = .int .i64 0, fun v _ => v = .bool true, fun v _ => v = .bool true, fun v _ => v = .bool true, fun v _ => v = .bool true, fun v _ => v = .bool true, fun v _ => v = .pointer (some ⟨b, 0, none⟩), fun _ w => VB w b1 32 (vF A (kP k) c (ksz k))]
    [(6, .pointer (some ⟨b, 0, none⟩)), (8, .pointer (some ⟨b4, 0, none⟩)), (7, .int .i64 0), (3, .pointer (some ⟨b1, 0, none⟩))] (fun w' => VB w' b4 32 (vF A (kP k) c (ksz k))) (fun w' => VB w' b1 32 [.slice none 0 0, .int .i64 0]) 12 (some b1) (by kernel_rfl) (by kernel_rfl) rfl rfl
    (.cons (Fact.eq _) rfl (.cons (Fact.eq _) rfl (.cons (Fact.eq _) rfl (.cons (Fact.eq _) rfl (.cons (Fact.eq _) rfl (.cons (Fact.eq _) rfl (.cons (Fact.eq _) rfl (.cons (Fact.eq _) rfl (.cons (Fact.eq _) rfl (.cons (Fact.eq _) rfl (.cons (Fact.eq _) rfl (.cons (Fact.eq _) rfl (.store (fun w w' h hb => h.next hb) rfl (.nil _)))))))))))))) (fun w' h => h.vb Hv5.out (by have := Hb.out; omega)) (fun w' h => Hv1.out.next h) (by kernel_rfl) ⟨rfl, rfl, rfl, rfl, trivial⟩ (.cons ?_ (.cons ?_ (.cons ?_ (.cons ?_ (.cons ?_ (.cons ?_ (.cons ?_ (.cons ?_ (.cons ?_ (.cons ?_ (.cons ?_ (.cons ?_ (.cons ?_ .nil))))))))))))) ?_
  · refine Obl.plain rfl _ rfl rfl [] (by kernel_rfl) fun a W hF hC hD K hK => ?_
    have e6 : a.tmps.getD 6 undef = .pointer (some ⟨b, 0, none⟩) := hF.1
    clear hF hD hC
    go_simp
    exact hK _ _ rfl (Below.refl _ _)
  · refine Obl.plain rfl _ rfl rfl [] (by kernel_rfl) fun a W hF hC hD K hK => ?_
    have c1 := hC
    have e8 : a.tmps.getD 8 undef = .pointer (some ⟨b4, 0, none⟩) := hF.2.1
    clear hF hD
    exact wp_load_mid 32 (.tmp 8) rfl b4 0 e8 (vF A (kP k) c (ksz k)) _ (fun j v hj => by rw [Nat.zero_add, c1.cell, hj]) Try.underlying32 rfl (szVF _ _ _ _) (hK _ _ rfl (Below.refl _ _))
  · refine Obl.plain rfl _ rfl rfl [] (by kernel_rfl) fun a W hF hC hD K hK => ?_
    have e6 : a.tmps.getD 6 undef = .pointer (some ⟨b, 0, none⟩) := hF.1
    clear hF hD hC
    go_simp
    exact hK _ _ rfl (Below.refl _ _)
  · refine Obl.plain rfl _ rfl rfl [2] (by kernel_rfl) fun a W hF hC hD K hK => ?_
    have e34 : a.tmps.getD 34 undef = .pointer (some ⟨b, 0, none⟩) := hD.1
    clear hF hD hC
    go_simp
    exact hK _ _ rfl (Below.refl _ _)
  · refine Obl.plain rfl _ rfl rfl [3] (by kernel_rfl) fun a W hF hC hD K hK => ?_
    have e35 : a.tmps.getD 35 undef = .bool true := hD.1
    clear hF hD hC
    go_simp
    exact hK _ _ rfl (Below.refl _ _)
  · refine Obl.guarded rfl _ rfl 4 true 36 rfl rfl [4] (by kernel_rfl) (fun a W hF hC hD => hD.1) fun a W hF hC hD K hK => ?_
    have e7 : a.tmps.getD 7 undef = .int .i64 0 := hF.2.2.1
    clear hF hD hC
    go_simp
    exact hK _ _ rfl (Below.refl _ _)
  · refine Obl.guarded rfl _ rfl 4 true 36 rfl rfl [5, 4] (by kernel_rfl) (fun a W hF hC hD => hD.2.1) fun a W hF hC hD K hK => ?_
    have e37 : a.tmps.getD 37 undef = .int .i64 0 := hD.1
    clear hF hD hC
    go_simp
    exact hK _ _ rfl (Below.refl _ _)
  · refine Obl.plain rfl _ rfl rfl [4, 6] (by kernel_rfl) fun a W hF hC hD K hK => ?_
    have e36 : a.tmps.getD 36 undef = .bool true := hD.1
    have e38 : a.tmps.getD 38 undef = .bool true := hD.2.1
    clear hF hD hC
    go_simp
    exact hK _ _ rfl (Below.refl _ _)
  · refine Obl.plain rfl _ rfl rfl [7, 4] (by kernel_rfl) fun a W hF hC hD K hK => ?_
    have e39 : a.tmps.getD 39 undef = .bool true := hD.1
    clear hF hD hC
    go_simp
    exact hK _ _ rfl (Below.refl _ _)
  · refine Obl.guarded rfl _ rfl 8 true 40 rfl rfl [8, 8] (by kernel_rfl) (fun a W hF hC hD => hD.1) fun a W hF hC hD K hK => ?_
    clear hF hD hC
    go_simp
    refine (wakes_any W).mono ?_
    rintro e W' ⟨rfl, hb⟩
    exact hK _ _ rfl hb
  · refine Obl.plain rfl _ rfl rfl [8, 9] (by kernel_rfl) fun a W hF hC hD K hK => ?_
    have e40 : a.tmps.getD 40 undef = .bool true := hD.1
    have e41 : a.tmps.getD 41 undef = .bool true := hD.2.1
    clear hF hD hC
    go_simp
    exact hK _ _ rfl (Below.refl _ _)
  · refine Obl.plain rfl _ rfl rfl [0, 9, 0] (by kernel_rfl) fun a W hF hC hD K hK => ?_
    have e32 : a.tmps.getD 32 undef = .pointer (some ⟨b, 0, none⟩) := hD.1
    clear hF hD hC
    go_simp
    exact hK _ _ rfl (Below.refl _ _)
  · refine Obl.write rfl rfl _ rfl rfl [1, 11, 0, 1, 11] (by kernel_rfl) fun a W hF hC hC0 hD K hK => ?_
    have e3 : a.tmps.getD 3 undef = .pointer (some ⟨b1, 0, none⟩) := hF.2.2.2.1
    have e33 : a.tmps.getD 33 undef = .agg (vF A (kP k) c (ksz k)).toArray := hD.1
    clear hF hD hC
    exact wpStW 32 (.tmp 3) (.tmp 33) rfl e3 (vF A (kP k) c (ksz k)) e33 hC0 (szVF _ _ _ _) rfl rfl fun W' hv ho => hK _ _ hv ho
  rintro w6 hB6 hC6 _ rfl _ rfl _ rfl _ rfl _ rfl _ rfl _ rfl _ rfl _ rfl _ rfl _ rfl _ rfl _ gw
  change Only _ _ _ at hB6
  change wpList _ _ _ _ _ _
  simp only [List.drop_succ_cons, List.drop_zero, Act.put, List.setIfInBounds_toArray, List.set_cons_zero, List.set_cons_succ]
  have hB6' := hide hB6
  clear hB6 hC6
  go_wp2_with fail
  refine ret4 rfl rfl gw rfl rfl rfl rfl rfl ⟨b, bm, A, c, rfl, ?_, hc.out, ?_, Only.below HB5.out hB6'.out Hb.out.1⟩
  · exact HF5.out.only hB6'.out (by have := Hb.out; omega) (by have := Hb.out; omega)
  · exact HR5.out.apart Hv1.out noU32 hB6'.out

set_option maxRecDepth 100000 in
set_option maxHeartbeats 1600000 in
theorem both_none (k : Int) (w : World) (hk : ¬ isKind k) : Calls Try.prog 12 #[.int .i64 k] w fun e w' =>
    e = .returned (.tuple #[.pointer none, .agg ([.slice none 0 0, .int .i64 0] : List Value).toArray, .bool false, .bool true]) ∧ Below w.heap.size w w' := by
  have Hnew := hide (fun W => fnew_none k W hk)
  have Hof := hide (fun W => rof_none k W hk)
  go_enter Try.func12, Try.ntmps12
  go_upto_region 4 with (first
    | ((with_reducible refine wpList_alloc (o := ⟨some 3, _, _, _, _, _⟩) ?_ 32 ?_ [.slice none 0 0, .int .i64 0] Try.zrF ?_); rfl; rfl; intro w1 b1 h1 hv1 h3 h4; have hn1 : New w w1 b1 := ⟨by rw [h1]; exact Nat.le_refl _, by rw [h4]; omega, h3⟩; clear h1 h3 h4)
    | (go_at_call 59; refine (Hnew.out w1).mono ?_; rintro e w2 ⟨rfl, rfl⟩)
    | (go_at_call 60; refine (Hof.out _).mono ?_; rintro e w3 ⟨rfl, hb3⟩; replace hb3 := hide hb3)
    | ((with_reducible refine wpList_alloc (o := ⟨some 8, _, _, _, _, _⟩) ?_ 32 ?_ [.slice none 0 0, .int .i64 0] Try.zrF ?_); rfl; rfl; intro w4 b4 h1 hv4 h3 h4; have hn4 : New w3 w4 b4 := ⟨by rw [h1]; exact Nat.le_refl _, by rw [h4]; omega, h3⟩; clear h1 h3 h4)
    | ((with_reducible refine wpList_storeW (o := ⟨none, _, _, _, _, _⟩) ?_ 32 (.tmp 8) (.tmp 18) ?_ ?_ hv4 [.slice none 0 0, .int .i64 0] ?_ szV0 ?_ ?_ ?_); rfl; rfl; rfl; rfl; rfl; rfl; intro w5 hv5 ho5; replace ho5 := hide ho5))
  have Hb := hide (show w.heap.size ≤ b1 ∧ b1 < b4 from ⟨hn1.lo, Nat.lt_of_lt_of_le hn1.hi (Nat.le_trans hb3.out.size hn4.lo)⟩)
  have HB5 := hide (Only.below (below_next (below_next hn1.bl hb3.out) hn4.bl) ho5.out (by have := Hb.out; omega))
  have Hv1 := hide (ho5.out.vb ((hv1.next hb3.out).next hn4.bl) (by have := Hb.out; omega))
  have Hv5 := hide hv5
  clear hv1 hv4 hv5
  refine region_do 13 43 [fun v _ => v = .agg ([.slice none 0 0, .int .i64 0] : List Value).toArray, fun v _ => v = .pointer none, fun v _ => v = .bool true, fun v _ => v = .bool true, fun v _ => v = .int .i64 1, fun v _ => v = .bool true, fun v _ => v = .bool true, fun v _ => v = .bool true, fun v _ => v = .bool true, fun v _ => v = .bool true, fun v _ => v = Value.pointer none, fun _ w => VB w b1 32 [.slice none 0 0, .int .i64 0], fun v _ => v = Value.bool false]
    [(8, .pointer (some ⟨b4, 0, none⟩)), (6, .pointer none), (7, .int .i64 1), (3, .pointer (some ⟨b1, 0, none⟩))] (fun w' => VB w' b4 32 [.slice none 0 0, .int .i64 0]) (fun w' => VB w' b1 32 [.slice none 0 0, .int .i64 0]) 11 (some b1) (by kernel_rfl) (by kernel_rfl) rfl rfl
    (.cons (Fact.eq _) rfl (.cons (Fact.eq _) rfl (.cons (Fact.eq _) rfl (.cons (Fact.eq _) rfl (.cons (Fact.eq _) rfl (.cons (Fact.eq _) rfl (.cons (Fact.eq _) rfl (.cons (Fact.eq _) rfl (.cons (Fact.eq _) rfl (.cons (Fact.eq _) rfl (.cons (Fact.eq _) rfl (.store (fun w w' h hb => h.next hb) rfl (.cons (Fact.eq _) rfl (.nil _)))))))))))))) (fun w' h => h.vb Hv5.out (by have := Hb.out; omega)) (fun w' h => Hv1.out.next h) (by kernel_rfl) ⟨rfl, rfl, rfl, rfl, trivial⟩ (.cons ?_ (.cons ?_ (.cons ?_ (.cons ?_ (.cons ?_ (.cons ?_ (.cons ?_ (.cons ?_ (.cons ?_ (.cons ?_ (.cons ?_ (.cons ?_ (.cons ?_ .nil))))))))))))) ?_
  · refine Obl.plain rfl _ rfl rfl [] (by kernel_rfl) fun a W hF hC hD K hK => ?_
    have c1 := hC
    have e8 : a.tmps.getD 8 undef = .pointer (some ⟨b4, 0, none⟩) := hF.1
    clear hF hD
    exact wp_load_mid 32 (.tmp 8) rfl b4 0 e8 [.slice none 0 0, .int .i64 0] _ (fun j v hj => by rw [Nat.zero_add, c1.cell, hj]) Try.underlying32 rfl szV0 (hK _ _ rfl (Below.refl _ _))
  · refine Obl.plain rfl _ rfl rfl [] (by kernel_rfl) fun a W hF hC hD K hK => ?_
    have e6 : a.tmps.getD 6 undef = .pointer none := hF.2.1
    clear hF hD hC
    go_simp
    exact hK _ _ rfl (Below.refl _ _)
  · refine Obl.plain rfl _ rfl rfl [1] (by kernel_rfl) fun a W hF hC hD K hK => ?_
    have e23 : a.tmps.getD 23 undef = .pointer none := hD.1
    clear hF hD hC
    go_simp
    exact hK _ _ rfl (Below.refl _ _)
  · refine Obl.plain rfl _ rfl rfl [2] (by kernel_rfl) fun a W hF hC hD K hK => ?_
    have e24 : a.tmps.getD 24 undef = .bool true := hD.1
    clear hF hD hC
    go_simp
    exact hK _ _ rfl (Below.refl _ _)
  · refine Obl.guarded rfl _ rfl 3 true 25 rfl rfl [3] (by kernel_rfl) (fun a W hF hC hD => hD.1) fun a W hF hC hD K hK => ?_
    have e7 : a.tmps.getD 7 undef = .int .i64 1 := hF.2.2.1
    clear hF hD hC
    go_simp
    exact hK _ _ rfl (Below.refl _ _)
  · refine Obl.guarded rfl _ rfl 3 true 25 rfl rfl [4, 3] (by kernel_rfl) (fun a W hF hC hD => hD.2.1) fun a W hF hC hD K hK => ?_
    have e26 : a.tmps.getD 26 undef = .int .i64 1 := hD.1
    clear hF hD hC
    go_simp
    exact hK _ _ rfl (Below.refl _ _)
  · refine Obl.plain rfl _ rfl rfl [3, 5] (by kernel_rfl) fun a W hF hC hD K hK => ?_
    have e25 : a.tmps.getD 25 undef = .bool true := hD.1
    have e27 : a.tmps.getD 27 undef = .bool true := hD.2.1
    clear hF hD hC
    go_simp
    exact hK _ _ rfl (Below.refl _ _)
  · refine Obl.plain rfl _ rfl rfl [6, 3] (by kernel_rfl) fun a W hF hC hD K hK => ?_
    have e28 : a.tmps.getD 28 undef = .bool true := hD.1
    clear hF hD hC
    go_simp
    exact hK _ _ rfl (Below.refl _ _)
  · refine Obl.guarded rfl _ rfl 7 true 29 rfl rfl [7, 7] (by kernel_rfl) (fun a W hF hC hD => hD.1) fun a W hF hC hD K hK => ?_
    clear hF hD hC
    go_simp
    refine (wakes_any W).mono ?_
    rintro e W' ⟨rfl, hb⟩
    exact hK _ _ rfl hb
  · refine Obl.plain rfl _ rfl rfl [7, 8] (by kernel_rfl) fun a W hF hC hD K hK => ?_
    have e29 : a.tmps.getD 29 undef = .bool true := hD.1
    have e30 : a.tmps.getD 30 undef = .bool true := hD.2.1
    clear hF hD hC
    go_simp
    exact hK _ _ rfl (Below.refl _ _)
  · refine Obl.plain rfl _ rfl rfl [8] (by kernel_rfl) fun a W hF hC hD K hK => ?_
    clear hF hD hC
    go_simp
    exact hK _ _ rfl (Below.refl _ _)
  · refine Obl.write rfl rfl _ rfl rfl [0, 10, 0, 10] (by kernel_rfl) fun a W hF hC hC0 hD K hK => ?_
    have e3 : a.tmps.getD 3 undef = .pointer (some ⟨b1, 0, none⟩) := hF.2.2.2.1
    have e22 : a.tmps.getD 22 undef = .agg ([.slice none 0 0, .int .i64 0] : List Value).toArray := hD.1
    clear hF hD hC
    exact wpStW 32 (.tmp 3) (.tmp 22) rfl e3 [.slice none 0 0, .int .i64 0] e22 hC0 szV0 rfl rfl fun W' hv ho => hK _ _ hv ho
  · refine Obl.plain rfl _ rfl rfl [11, 0, 10, 11] (by kernel_rfl) fun a W hF hC hD K hK => ?_
    clear hF hD hC
    go_simp
    exact hK _ _ rfl (Below.refl _ _)
  rintro w6 hB6 hC6 _ rfl _ rfl _ rfl _ rfl _ rfl _ rfl _ rfl _ rfl _ rfl _ rfl _ rfl _ gw _ rfl
  change Only _ _ _ at hB6
  change wpList _ _ _ _ _ _
  simp only [List.drop_succ_cons, List.drop_zero, Act.put, List.setIfInBounds_toArray, List.set_cons_zero, List.set_cons_succ]
  have hB6' := hide hB6
  clear hB6 hC6
  go_wp2_with fail
  refine ret4 rfl rfl gw rfl rfl rfl rfl rfl ⟨rfl, Only.below HB5.out hB6'.out Hb.out.1⟩
end Go.Proofs.Ytincemkjdgbnnaa
