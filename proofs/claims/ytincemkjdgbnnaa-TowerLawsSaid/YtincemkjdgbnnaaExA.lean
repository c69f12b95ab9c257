/- Walks: package ext: One2, Add2, Sub2, Conj2, Mul2, up2. -/
import Derived.Test.YtincemkjdgbnnaaTwC
set_option linter.unusedVariables false
set_option linter.unusedSimpArgs false
namespace Go.Proofs.Ytincemkjdgbnnaa
open Go.RowKit Lm

set_option maxRecDepth 100000 in
set_option maxHeartbeats 3200000 in
theorem xone2 {bt bm P n : Nat} {N : Int} {fr : List Value} {w : World} (hT : TB w bt bm P n N fr) (hI : InvOk P) :
    Calls Try.prog 136 #[.pointer (some ⟨bt, 0, none⟩)] w fun e w' => e = .returned (.agg (m2 P n Z2.one).toArray) ∧ Below w.heap.size w w' := by
  have hT := hide hT
  have hI := hide hI
  go_enter Try.func136, Try.ntmps136
  have hq0 := hide (St.start w)
  go_upto_region 1 with (first
    | ((with_reducible refine allocS (o := ⟨some 2, _, _, _, _, _⟩) ?_ 123 ?_ hq0.out (z0 12) Try.zrE2 ?_); rfl; rfl; intro wq1 b2 hS; have hq1 : Hid (St w wq1 [⟨b2, 123, z0 12⟩]) := hide hS; clear hS))
  have hS0 := hq1
  clear hq0 hq1
  go_upto_region 1 with fail
  refine region_seq 6 9 [fun v _ => v = .pointer (some ⟨bt, 0, none⟩), fun v _ => v = .pointer (some ⟨bt, 0, none⟩), fun v _ => v = .pointer (some ⟨bt, 0, none⟩), fun v _ => v = .pointer (some ⟨bm, 0, none⟩), fun v _ => v = vE (mi P n 1), fun v _ => v = .agg (m2 P n (⟨1, 0⟩)).toArray]
    [(0, .pointer (some ⟨bt, 0, none⟩))] (fun w' => St w w' [⟨b2, 123, z0 12⟩] ∧ TB w' bt bm P n N fr) (fun w' => True) 999 none trivial (by kernel_rfl) rfl rfl
    (.cons (Fact.eq _) rfl (.cons (Fact.eq _) rfl (.cons (Fact.eq _) rfl (.cons (Fact.eq _) rfl (.cons (Fact.eq _) rfl (.cons (Fact.eq _) rfl (.nil _))))))) (fun w' h => ⟨hS0.out.next h, hT.out.next (hS0.out.next h).bl⟩) (fun w' h => trivial) (by kernel_rfl) (by exact ⟨rfl, trivial⟩) (.cons ?_ (.cons ?_ (.cons ?_ (.cons ?_ (.cons ?_ (.cons ?_ .nil)))))) ?_
  · refine Obl.plain rfl _ rfl rfl [] (by kernel_rfl) fun a W hF hC hD K hK => ?_
    have e0 : a.tmps.getD 0 undef = .pointer (some ⟨bt, 0, none⟩) := hF.1
    clear hF hD hC
    exact wp_move (.tmp 0) rfl e0 (hK _ _ rfl (Below.refl _ _))
  · refine Obl.plain rfl _ rfl rfl [0] (by kernel_rfl) fun a W hF hC hD K hK => ?_
    have e3 : a.tmps.getD 3 undef = .pointer (some ⟨bt, 0, none⟩) := hD.1
    clear hF hD hC
    exact wp_nil (.tmp 3) rfl e3 (hK _ _ rfl (Below.refl _ _))
  · refine Obl.plain rfl _ rfl rfl [1] (by kernel_rfl) fun a W hF hC hD K hK => ?_
    have e4 : a.tmps.getD 4 undef = .pointer (some ⟨bt, 0, none⟩) := hD.1
    clear hF hD hC
    exact wp_fld (.tmp 4) rfl e4 (Try.fldT0 _ W) (hK _ _ rfl (Below.refl _ _))
  · refine Obl.plain rfl _ rfl rfl [2] (by kernel_rfl) fun a W hF hC hD K hK => ?_
    obtain ⟨c1, c2⟩ := hC
    have e5 : a.tmps.getD 5 undef = .pointer (some ⟨bt, 0, none⟩) := hD.1
    clear hF hD
    exact wp_ptr (.tmp 5) rfl e5 c2.cellF Try.aggF (hK _ _ rfl (Below.refl _ _))
  · refine Obl.plain rfl _ rfl rfl [3] (by kernel_rfl) fun a W hF hC hD K hK => ?_
    obtain ⟨c1, c2⟩ := hC
    have e6 : a.tmps.getD 6 undef = .pointer (some ⟨bm, 0, none⟩) := hD.1
    clear hF hD
    exact wp_callV #[a.tmps.getD 6 undef] #[.pointer (some ⟨bm, 0, none⟩)] (vE (mi P n 1)) (by kernel_rfl) (by rw [e6]) (ione c2.fb) (fun w' hb => hK _ _ rfl hb)
  · refine Obl.plain rfl _ rfl rfl [4] (by kernel_rfl) fun a W hF hC hD K hK => ?_
    have e7 : a.tmps.getD 7 undef = vE (mi P n 1) := hD.1
    clear hF hD hC
    exact wp_bld1 (.tmp 7) rfl e7 Try.underlying123 Try.sz98 Try.zrE2 (eE_len P n _) (by decide) (hK _ _ (pad_m2 P n 1) (Below.refl _ _))
  rintro w1 hB hC _ rfl _ rfl _ rfl _ rfl _ rfl _ rfl
  change Below _ _ _ at hB
  change wpList _ _ _ _ _ _
  simp only [List.drop_succ_cons, List.drop_zero, Act.put, List.setIfInBounds_toArray, List.set_cons_zero, List.set_cons_succ]
  have hS1 := hide (hS0.out.next hB)
  clear hB hC hS0
  go_wp2_with ((with_reducible refine storeWS (n := 12) (o := ⟨none, _, _, _, _, _⟩) ?_ 123 (.tmp 2) (.tmp 8) ?_ hS1.out 0 (c := ⟨b2, 123, z0 12⟩) ?_ ?_ (m2 P n (⟨1, 0⟩)) ?_ ?_ ?_ ?_ Try.szE2 ?_); rfl; rfl; rfl; rfl; rfl; rfl; rfl; rfl; intro wz hZ hO)
  exact retS rfl hZ 0 (c := ⟨b2, 123, m2 P n (⟨1, 0⟩)⟩) rfl rfl Try.underlying123 rfl Try.szE2 rfl ⟨rfl, hZ.bl⟩

set_option maxRecDepth 100000 in
set_option maxHeartbeats 3200000 in
theorem xadd2 {bt bm P n : Nat} {N : Int} {fr : List Value} {w : World} (X Y : Z2) (hT : TB w bt bm P n N fr) (hI : InvOk P) :
    Calls Try.prog 96 #[.pointer (some ⟨bt, 0, none⟩), .agg (m2 P n X).toArray, .agg (m2 P n Y).toArray] w fun e w' => e = .returned (.agg (m2 P n (Z2.add X Y)).toArray) ∧ Below w.heap.size w w' := by
  have hT := hide hT
  have hI := hide hI
  go_enter Try.func96, Try.ntmps96
  have hq0 := hide (St.start w)
  go_upto_region 1 with (first
    | ((with_reducible refine boxS (o := ⟨some 4, _, _, _, _, _⟩) ?_ 123 (.tmp 1) ?_ hq0.out (m2 P n X) ?_ ?_); rfl; rfl; rfl; intro wq1 b4 hS; have hq1 : Hid (St w wq1 [⟨b4, 123, m2 P n X⟩]) := hide hS; clear hS)
    | ((with_reducible refine boxS (o := ⟨some 5, _, _, _, _, _⟩) ?_ 123 (.tmp 2) ?_ hq1.out (m2 P n Y) ?_ ?_); rfl; rfl; rfl; intro wq2 b5 hS; have hq2 : Hid (St w wq2 [⟨b4, 123, m2 P n X⟩, ⟨b5, 123, m2 P n Y⟩]) := hide hS; clear hS)
    | ((with_reducible refine allocS (o := ⟨some 6, _, _, _, _, _⟩) ?_ 123 ?_ hq2.out (z0 12) Try.zrE2 ?_); rfl; rfl; intro wq3 b6 hS; have hq3 : Hid (St w wq3 [⟨b4, 123, m2 P n X⟩, ⟨b5, 123, m2 P n Y⟩, ⟨b6, 123, z0 12⟩]) := hide hS; clear hS))
  have hS0 := hq3
  clear hq0 hq1 hq2 hq3
  go_upto_region 1 with fail
  refine region_do 19 26 [fun v _ => v = .pointer (some ⟨bt, 0, none⟩), fun v _ => v = .pointer (some ⟨bt, 0, none⟩), fun v _ => v = .pointer (some ⟨bt, 0, none⟩), fun v _ => v = .pointer (some ⟨bm, 0, none⟩), fun v _ => v = .pointer (some ⟨b4, 0, none⟩), fun v _ => v = vE (mi P n X.a), fun v _ => v = .pointer (some ⟨b5, 0, none⟩), fun v _ => v = vE (mi P n Y.a), fun v _ => v = vE (mi P n (X.a + Y.a)), fun v _ => v = .pointer (some ⟨bt, 0, none⟩), fun v _ => v = .pointer (some ⟨bt, 0, none⟩), fun v _ => v = .pointer (some ⟨bt, 0, none⟩), fun v _ => v = .pointer (some ⟨bm, 0, none⟩), fun v _ => v = .pointer (some ⟨b4, 6, none⟩), fun v _ => v = vE (mi P n X.b), fun v _ => v = .pointer (some ⟨b5, 6, none⟩), fun v _ => v = vE (mi P n Y.b), fun v _ => v = vE (mi P n (X.b + Y.b)), fun v _ => v = .agg (m2 P n (⟨X.a + Y.a, X.b + Y.b⟩)).toArray]
    [(0, .pointer (some ⟨bt, 0, none⟩)), (4, .pointer (some ⟨b4, 0, none⟩)), (5, .pointer (some ⟨b5, 0, none⟩))] (fun w' => St w w' [⟨b4, 123, m2 P n X⟩, ⟨b5, 123, m2 P n Y⟩, ⟨b6, 123, z0 12⟩] ∧ TB w' bt bm P n N fr) (fun w' => True) 999 none (by kernel_rfl) (by kernel_rfl) rfl rfl
    (.cons (Fact.eq _) rfl (.cons (Fact.eq _) rfl (.cons (Fact.eq _) rfl (.cons (Fact.eq _) rfl (.cons (Fact.eq _) rfl (.cons (Fact.eq _) rfl (.cons (Fact.eq _) rfl (.cons (Fact.eq _) rfl (.cons (Fact.eq _) rfl (.cons (Fact.eq _) rfl (.cons (Fact.eq _) rfl (.cons (Fact.eq _) rfl (.cons (Fact.eq _) rfl (.cons (Fact.eq _) rfl (.cons (Fact.eq _) rfl (.cons (Fact.eq _) rfl (.cons (Fact.eq _) rfl (.cons (Fact.eq _) rfl (.cons (Fact.eq _) rfl (.nil _)))))))))))))))))))) (fun w' h => ⟨hS0.out.next h, hT.out.next (hS0.out.next h).bl⟩) (fun w' h => trivial) (by kernel_rfl) (by exact ⟨rfl, rfl, rfl, trivial⟩) (.cons ?_ (.cons ?_ (.cons ?_ (.cons ?_ (.cons ?_ (.cons ?_ (.cons ?_ (.cons ?_ (.cons ?_ (.cons ?_ (.cons ?_ (.cons ?_ (.cons ?_ (.cons ?_ (.cons ?_ (.cons ?_ (.cons ?_ (.cons ?_ (.cons ?_ .nil))))))))))))))))))) ?_
  · refine Obl.plain rfl _ rfl rfl [] (by kernel_rfl) fun a W hF hC hD K hK => ?_
    have e0 : a.tmps.getD 0 undef = .pointer (some ⟨bt, 0, none⟩) := hF.1
    clear hF hD hC
    exact wp_move (.tmp 0) rfl e0 (hK _ _ rfl (Below.refl _ _))
  · refine Obl.plain rfl _ rfl rfl [0] (by kernel_rfl) fun a W hF hC hD K hK => ?_
    have e7 : a.tmps.getD 7 undef = .pointer (some ⟨bt, 0, none⟩) := hD.1
    clear hF hD hC
    exact wp_nil (.tmp 7) rfl e7 (hK _ _ rfl (Below.refl _ _))
  · refine Obl.plain rfl _ rfl rfl [1] (by kernel_rfl) fun a W hF hC hD K hK => ?_
    have e8 : a.tmps.getD 8 undef = .pointer (some ⟨bt, 0, none⟩) := hD.1
    clear hF hD hC
    exact wp_fld (.tmp 8) rfl e8 (Try.fldT0 _ W) (hK _ _ rfl (Below.refl _ _))
  · refine Obl.plain rfl _ rfl rfl [2] (by kernel_rfl) fun a W hF hC hD K hK => ?_
    obtain ⟨c1, c2⟩ := hC
    have e9 : a.tmps.getD 9 undef = .pointer (some ⟨bt, 0, none⟩) := hD.1
    clear hF hD
    exact wp_ptr (.tmp 9) rfl e9 c2.cellF Try.aggF (hK _ _ rfl (Below.refl _ _))
  · refine Obl.plain rfl _ rfl rfl [] (by kernel_rfl) fun a W hF hC hD K hK => ?_
    have e4 : a.tmps.getD 4 undef = .pointer (some ⟨b4, 0, none⟩) := hF.2.1
    clear hF hD hC
    exact wp_idx (.tmp 4) (.const (.int .i64 0)) rfl e4 0 rfl Try.underlying123 Try.sz98 (by decide) (hK _ _ rfl (Below.refl _ _))
  · refine Obl.plain rfl _ rfl rfl [4] (by kernel_rfl) fun a W hF hC hD K hK => ?_
    obtain ⟨c1, c2⟩ := hC
    have e11 : a.tmps.getD 11 undef = .pointer (some ⟨b4, 0, none⟩) := hD.1
    clear hF hD
    exact wpLd 98 (.tmp 11) rfl (c1.vb 0 _ rfl) 0 e11 (eE P n X.a) (part0 _ _ (eE_len P n _)) (eE_len P n _) Try.underlying98 rfl Try.sz98 (hK _ _ rfl (Below.refl _ _))
  · refine Obl.plain rfl _ rfl rfl [] (by kernel_rfl) fun a W hF hC hD K hK => ?_
    have e5 : a.tmps.getD 5 undef = .pointer (some ⟨b5, 0, none⟩) := hF.2.2.1
    clear hF hD hC
    exact wp_idx (.tmp 5) (.const (.int .i64 0)) rfl e5 0 rfl Try.underlying123 Try.sz98 (by decide) (hK _ _ rfl (Below.refl _ _))
  · refine Obl.plain rfl _ rfl rfl [6] (by kernel_rfl) fun a W hF hC hD K hK => ?_
    obtain ⟨c1, c2⟩ := hC
    have e13 : a.tmps.getD 13 undef = .pointer (some ⟨b5, 0, none⟩) := hD.1
    clear hF hD
    exact wpLd 98 (.tmp 13) rfl (c1.vb 1 _ rfl) 0 e13 (eE P n Y.a) (part0 _ _ (eE_len P n _)) (eE_len P n _) Try.underlying98 rfl Try.sz98 (hK _ _ rfl (Below.refl _ _))
  · refine Obl.plain rfl _ rfl rfl [3, 5, 7] (by kernel_rfl) fun a W hF hC hD K hK => ?_
    obtain ⟨c1, c2⟩ := hC
    have e10 : a.tmps.getD 10 undef = .pointer (some ⟨bm, 0, none⟩) := hD.1
    have e12 : a.tmps.getD 12 undef = vE (mi P n X.a) := hD.2.1
    have e14 : a.tmps.getD 14 undef = vE (mi P n Y.a) := hD.2.2.1
    clear hF hD
    exact wp_callV #[a.tmps.getD 10 undef, a.tmps.getD 12 undef, a.tmps.getD 14 undef] #[.pointer (some ⟨bm, 0, none⟩), vE (mi P n X.a), vE (mi P n Y.a)] (vE (mi P n (X.a + Y.a))) (by kernel_rfl) (by rw [e10, e12, e14]) (iadd X.a Y.a c2.fb) (fun w' hb => hK _ _ rfl hb)
  · refine Obl.plain rfl _ rfl rfl [] (by kernel_rfl) fun a W hF hC hD K hK => ?_
    have e0 : a.tmps.getD 0 undef = .pointer (some ⟨bt, 0, none⟩) := hF.1
    clear hF hD hC
    exact wp_move (.tmp 0) rfl e0 (hK _ _ rfl (Below.refl _ _))
  · refine Obl.plain rfl _ rfl rfl [9] (by kernel_rfl) fun a W hF hC hD K hK => ?_
    have e16 : a.tmps.getD 16 undef = .pointer (some ⟨bt, 0, none⟩) := hD.1
    clear hF hD hC
    exact wp_nil (.tmp 16) rfl e16 (hK _ _ rfl (Below.refl _ _))
  · refine Obl.plain rfl _ rfl rfl [10] (by kernel_rfl) fun a W hF hC hD K hK => ?_
    have e17 : a.tmps.getD 17 undef = .pointer (some ⟨bt, 0, none⟩) := hD.1
    clear hF hD hC
    exact wp_fld (.tmp 17) rfl e17 (Try.fldT0 _ W) (hK _ _ rfl (Below.refl _ _))
  · refine Obl.plain rfl _ rfl rfl [11] (by kernel_rfl) fun a W hF hC hD K hK => ?_
    obtain ⟨c1, c2⟩ := hC
    have e18 : a.tmps.getD 18 undef = .pointer (some ⟨bt, 0, none⟩) := hD.1
    clear hF hD
    exact wp_ptr (.tmp 18) rfl e18 c2.cellF Try.aggF (hK _ _ rfl (Below.refl _ _))
  · refine Obl.plain rfl _ rfl rfl [] (by kernel_rfl) fun a W hF hC hD K hK => ?_
    have e4 : a.tmps.getD 4 undef = .pointer (some ⟨b4, 0, none⟩) := hF.2.1
    clear hF hD hC
    exact wp_idx (.tmp 4) (.const (.int .i64 1)) rfl e4 1 rfl Try.underlying123 Try.sz98 (by decide) (hK _ _ rfl (Below.refl _ _))
  · refine Obl.plain rfl _ rfl rfl [13] (by kernel_rfl) fun a W hF hC hD K hK => ?_
    obtain ⟨c1, c2⟩ := hC
    have e20 : a.tmps.getD 20 undef = .pointer (some ⟨b4, 6, none⟩) := hD.1
    clear hF hD
    exact wpLd 98 (.tmp 20) rfl (c1.vb 0 _ rfl) 6 e20 (eE P n X.b) (part1 _ _ (eE_len P n _) (eE_len P n _)) (eE_len P n _) Try.underlying98 rfl Try.sz98 (hK _ _ rfl (Below.refl _ _))
  · refine Obl.plain rfl _ rfl rfl [] (by kernel_rfl) fun a W hF hC hD K hK => ?_
    have e5 : a.tmps.getD 5 undef = .pointer (some ⟨b5, 0, none⟩) := hF.2.2.1
    clear hF hD hC
    exact wp_idx (.tmp 5) (.const (.int .i64 1)) rfl e5 1 rfl Try.underlying123 Try.sz98 (by decide) (hK _ _ rfl (Below.refl _ _))
  · refine Obl.plain rfl _ rfl rfl [15] (by kernel_rfl) fun a W hF hC hD K hK => ?_
    obtain ⟨c1, c2⟩ := hC
    have e22 : a.tmps.getD 22 undef = .pointer (some ⟨b5, 6, none⟩) := hD.1
    clear hF hD
    exact wpLd 98 (.tmp 22) rfl (c1.vb 1 _ rfl) 6 e22 (eE P n Y.b) (part1 _ _ (eE_len P n _) (eE_len P n _)) (eE_len P n _) Try.underlying98 rfl Try.sz98 (hK _ _ rfl (Below.refl _ _))
  · refine Obl.plain rfl _ rfl rfl [12, 14, 16, 8] (by kernel_rfl) fun a W hF hC hD K hK => ?_
    obtain ⟨c1, c2⟩ := hC
    have e19 : a.tmps.getD 19 undef = .pointer (some ⟨bm, 0, none⟩) := hD.1
    have e21 : a.tmps.getD 21 undef = vE (mi P n X.b) := hD.2.1
    have e23 : a.tmps.getD 23 undef = vE (mi P n Y.b) := hD.2.2.1
    clear hF hD
    exact wp_callV #[a.tmps.getD 19 undef, a.tmps.getD 21 undef, a.tmps.getD 23 undef] #[.pointer (some ⟨bm, 0, none⟩), vE (mi P n X.b), vE (mi P n Y.b)] (vE (mi P n (X.b + Y.b))) (by kernel_rfl) (by rw [e19, e21, e23]) (iadd X.b Y.b c2.fb) (fun w' hb => hK _ _ rfl hb)
  · refine Obl.plain rfl _ rfl rfl [8, 17] (by kernel_rfl) fun a W hF hC hD K hK => ?_
    have e15 : a.tmps.getD 15 undef = vE (mi P n (X.a + Y.a)) := hD.1
    have e24 : a.tmps.getD 24 undef = vE (mi P n (X.b + Y.b)) := hD.2.1
    clear hF hD hC
    exact wp_bld2 (.tmp 15) (.tmp 24) rfl e15 e24 Try.underlying123 Try.sz98 Try.zrE2 (eE_len P n _) (eE_len P n _) rfl (hK _ _ rfl (Below.refl _ _))
  rintro w1 hB hC _ rfl _ rfl _ rfl _ rfl _ rfl _ rfl _ rfl _ rfl _ rfl _ rfl _ rfl _ rfl _ rfl _ rfl _ rfl _ rfl _ rfl _ rfl _ rfl
  change Below _ _ _ at hB
  change wpList _ _ _ _ _ _
  simp only [List.drop_succ_cons, List.drop_zero, Act.put, List.setIfInBounds_toArray, List.set_cons_zero, List.set_cons_succ]
  have hS1 := hide (hS0.out.next hB)
  clear hB hC hS0
  go_wp2_with ((with_reducible refine storeWS (n := 12) (o := ⟨none, _, _, _, _, _⟩) ?_ 123 (.tmp 6) (.tmp 25) ?_ hS1.out 2 (c := ⟨b6, 123, z0 12⟩) ?_ ?_ (m2 P n (⟨X.a + Y.a, X.b + Y.b⟩)) ?_ ?_ ?_ ?_ Try.szE2 ?_); rfl; rfl; rfl; rfl; rfl; rfl; rfl; rfl; intro wz hZ hO)
  exact retS rfl hZ 2 (c := ⟨b6, 123, m2 P n (⟨X.a + Y.a, X.b + Y.b⟩)⟩) rfl rfl Try.underlying123 rfl Try.szE2 rfl ⟨rfl, hZ.bl⟩

set_option maxRecDepth 100000 in
set_option maxHeartbeats 3200000 in
theorem xsub2 {bt bm P n : Nat} {N : Int} {fr : List Value} {w : World} (X Y : Z2) (hT : TB w bt bm P n N fr) (hI : InvOk P) :
    Calls Try.prog 97 #[.pointer (some ⟨bt, 0, none⟩), .agg (m2 P n X).toArray, .agg (m2 P n Y).toArray] w fun e w' => e = .returned (.agg (m2 P n (Z2.sub X Y)).toArray) ∧ Below w.heap.size w w' := by
  have hT := hide hT
  have hI := hide hI
  go_enter Try.func97, Try.ntmps97
  have hq0 := hide (St.start w)
  go_upto_region 1 with (first
    | ((with_reducible refine boxS (o := ⟨some 4, _, _, _, _, _⟩) ?_ 123 (.tmp 1) ?_ hq0.out (m2 P n X) ?_ ?_); rfl; rfl; rfl; intro wq1 b4 hS; have hq1 : Hid (St w wq1 [⟨b4, 123, m2 P n X⟩]) := hide hS; clear hS)
    | ((with_reducible refine boxS (o := ⟨some 5, _, _, _, _, _⟩) ?_ 123 (.tmp 2) ?_ hq1.out (m2 P n Y) ?_ ?_); rfl; rfl; rfl; intro wq2 b5 hS; have hq2 : Hid (St w wq2 [⟨b4, 123, m2 P n X⟩, ⟨b5, 123, m2 P n Y⟩]) := hide hS; clear hS)
    | ((with_reducible refine allocS (o := ⟨some 6, _, _, _, _, _⟩) ?_ 123 ?_ hq2.out (z0 12) Try.zrE2 ?_); rfl; rfl; intro wq3 b6 hS; have hq3 : Hid (St w wq3 [⟨b4, 123, m2 P n X⟩, ⟨b5, 123, m2 P n Y⟩, ⟨b6, 123, z0 12⟩]) := hide hS; clear hS))
  have hS0 := hq3
  clear hq0 hq1 hq2 hq3
  go_upto_region 1 with fail
  refine region_do 19 26 [fun v _ => v = .pointer (some ⟨bt, 0, none⟩), fun v _ => v = .pointer (some ⟨bt, 0, none⟩), fun v _ => v = .pointer (some ⟨bt, 0, none⟩), fun v _ => v = .pointer (some ⟨bm, 0, none⟩), fun v _ => v = .pointer (some ⟨b4, 0, none⟩), fun v _ => v = vE (mi P n X.a), fun v _ => v = .pointer (some ⟨b5, 0, none⟩), fun v _ => v = vE (mi P n Y.a), fun v _ => v = vE (mi P n (X.a - Y.a)), fun v _ => v = .pointer (some ⟨bt, 0, none⟩), fun v _ => v = .pointer (some ⟨bt, 0, none⟩), fun v _ => v = .pointer (some ⟨bt, 0, none⟩), fun v _ => v = .pointer (some ⟨bm, 0, none⟩), fun v _ => v = .pointer (some ⟨b4, 6, none⟩), fun v _ => v = vE (mi P n X.b), fun v _ => v = .pointer (some ⟨b5, 6, none⟩), fun v _ => v = vE (mi P n Y.b), fun v _ => v = vE (mi P n (X.b - Y.b)), fun v _ => v = .agg (m2 P n (⟨X.a - Y.a, X.b - Y.b⟩)).toArray]
    [(0, .pointer (some ⟨bt, 0, none⟩)), (4, .pointer (some ⟨b4, 0, none⟩)), (5, .pointer (some ⟨b5, 0, none⟩))] (fun w' => St w w' [⟨b4, 123, m2 P n X⟩, ⟨b5, 123, m2 P n Y⟩, ⟨b6, 123, z0 12⟩] ∧ TB w' bt bm P n N fr) (fun w' => True) 999 none (by kernel_rfl) (by kernel_rfl) rfl rfl
    (.cons (Fact.eq _) rfl (.cons (Fact.eq _) rfl (.cons (Fact.eq _) rfl (.cons (Fact.eq _) rfl (.cons (Fact.eq _) rfl (.cons (Fact.eq _) rfl (.cons (Fact.eq _) rfl (.cons (Fact.eq _) rfl (.cons (Fact.eq _) rfl (.cons (Fact.eq _) rfl (.cons (Fact.eq _) rfl (.cons (Fact.eq _) rfl (.cons (Fact.eq _) rfl (.cons (Fact.eq _) rfl (.cons (Fact.eq _) rfl (.cons (Fact.eq _) rfl (.cons (Fact.eq _) rfl (.cons (Fact.eq _) rfl (.cons (Fact.eq _) rfl (.nil _)))))))))))))))))))) (fun w' h => ⟨hS0.out.next h, hT.out.next (hS0.out.next h).bl⟩) (fun w' h => trivial) (by kernel_rfl) (by exact ⟨rfl, rfl, rfl, trivial⟩) (.cons ?_ (.cons ?_ (.cons ?_ (.cons ?_ (.cons ?_ (.cons ?_ (.cons ?_ (.cons ?_ (.cons ?_ (.cons ?_ (.cons ?_ (.cons ?_ (.cons ?_ (.cons ?_ (.cons ?_ (.cons ?_ (.cons ?_ (.cons ?_ (.cons ?_ .nil))))))))))))))))))) ?_
  · refine Obl.plain rfl _ rfl rfl [] (by kernel_rfl) fun a W hF hC hD K hK => ?_
    have e0 : a.tmps.getD 0 undef = .pointer (some ⟨bt, 0, none⟩) := hF.1
    clear hF hD hC
    exact wp_move (.tmp 0) rfl e0 (hK _ _ rfl (Below.refl _ _))
  · refine Obl.plain rfl _ rfl rfl [0] (by kernel_rfl) fun a W hF hC hD K hK => ?_
    have e7 : a.tmps.getD 7 undef = .pointer (some ⟨bt, 0, none⟩) := hD.1
    clear hF hD hC
    exact wp_nil (.tmp 7) rfl e7 (hK _ _ rfl (Below.refl _ _))
  · refine Obl.plain rfl _ rfl rfl [1] (by kernel_rfl) fun a W hF hC hD K hK => ?_
    have e8 : a.tmps.getD 8 undef = .pointer (some ⟨bt, 0, none⟩) := hD.1
    clear hF hD hC
    exact wp_fld (.tmp 8) rfl e8 (Try.fldT0 _ W) (hK _ _ rfl (Below.refl _ _))
  · refine Obl.plain rfl _ rfl rfl [2] (by kernel_rfl) fun a W hF hC hD K hK => ?_
    obtain ⟨c1, c2⟩ := hC
    have e9 : a.tmps.getD 9 undef = .pointer (some ⟨bt, 0, none⟩) := hD.1
    clear hF hD
    exact wp_ptr (.tmp 9) rfl e9 c2.cellF Try.aggF (hK _ _ rfl (Below.refl _ _))
  · refine Obl.plain rfl _ rfl rfl [] (by kernel_rfl) fun a W hF hC hD K hK => ?_
    have e4 : a.tmps.getD 4 undef = .pointer (some ⟨b4, 0, none⟩) := hF.2.1
    clear hF hD hC
    exact wp_idx (.tmp 4) (.const (.int .i64 0)) rfl e4 0 rfl Try.underlying123 Try.sz98 (by decide) (hK _ _ rfl (Below.refl _ _))
  · refine Obl.plain rfl _ rfl rfl [4] (by kernel_rfl) fun a W hF hC hD K hK => ?_
    obtain ⟨c1, c2⟩ := hC
    have e11 : a.tmps.getD 11 undef = .pointer (some ⟨b4, 0, none⟩) := hD.1
    clear hF hD
    exact wpLd 98 (.tmp 11) rfl (c1.vb 0 _ rfl) 0 e11 (eE P n X.a) (part0 _ _ (eE_len P n _)) (eE_len P n _) Try.underlying98 rfl Try.sz98 (hK _ _ rfl (Below.refl _ _))
  · refine Obl.plain rfl _ rfl rfl [] (by kernel_rfl) fun a W hF hC hD K hK => ?_
    have e5 : a.tmps.getD 5 undef = .pointer (some ⟨b5, 0, none⟩) := hF.2.2.1
    clear hF hD hC
    exact wp_idx (.tmp 5) (.const (.int .i64 0)) rfl e5 0 rfl Try.underlying123 Try.sz98 (by decide) (hK _ _ rfl (Below.refl _ _))
  · refine Obl.plain rfl _ rfl rfl [6] (by kernel_rfl) fun a W hF hC hD K hK => ?_
    obtain ⟨c1, c2⟩ := hC
    have e13 : a.tmps.getD 13 undef = .pointer (some ⟨b5, 0, none⟩) := hD.1
    clear hF hD
    exact wpLd 98 (.tmp 13) rfl (c1.vb 1 _ rfl) 0 e13 (eE P n Y.a) (part0 _ _ (eE_len P n _)) (eE_len P n _) Try.underlying98 rfl Try.sz98 (hK _ _ rfl (Below.refl _ _))
  · refine Obl.plain rfl _ rfl rfl [3, 5, 7] (by kernel_rfl) fun a W hF hC hD K hK => ?_
    obtain ⟨c1, c2⟩ := hC
    have e10 : a.tmps.getD 10 undef = .pointer (some ⟨bm, 0, none⟩) := hD.1
    have e12 : a.tmps.getD 12 undef = vE (mi P n X.a) := hD.2.1
    have e14 : a.tmps.getD 14 undef = vE (mi P n Y.a) := hD.2.2.1
    clear hF hD
    exact wp_callV #[a.tmps.getD 10 undef, a.tmps.getD 12 undef, a.tmps.getD 14 undef] #[.pointer (some ⟨bm, 0, none⟩), vE (mi P n X.a), vE (mi P n Y.a)] (vE (mi P n (X.a - Y.a))) (by kernel_rfl) (by rw [e10, e12, e14]) (isub X.a Y.a c2.fb) (fun w' hb => hK _ _ rfl hb)
  · refine Obl.plain rfl _ rfl rfl [] (by kernel_rfl) fun a W hF hC hD K hK => ?_
    have e0 : a.tmps.getD 0 undef = .pointer (some ⟨bt, 0, none⟩) := hF.1
    clear hF hD hC
    exact wp_move (.tmp 0) rfl e0 (hK _ _ rfl (Below.refl _ _))
  · refine Obl.plain rfl _ rfl rfl [9] (by kernel_rfl) fun a W hF hC hD K hK => ?_
    have e16 : a.tmps.getD 16 undef = .pointer (some ⟨bt, 0, none⟩) := hD.1
    clear hF hD hC
    exact wp_nil (.tmp 16) rfl e16 (hK _ _ rfl (Below.refl _ _))
  · refine Obl.plain rfl _ rfl rfl [10] (by kernel_rfl) fun a W hF hC hD K hK => ?_
    have e17 : a.tmps.getD 17 undef = .pointer (some ⟨bt, 0, none⟩) := hD.1
    clear hF hD hC
    exact wp_fld (.tmp 17) rfl e17 (Try.fldT0 _ W) (hK _ _ rfl (Below.refl _ _))
  · refine Obl.plain rfl _ rfl rfl [11] (by kernel_rfl) fun a W hF hC hD K hK => ?_
    obtain ⟨c1, c2⟩ := hC
    have e18 : a.tmps.getD 18 undef = .pointer (some ⟨bt, 0, none⟩) := hD.1
    clear hF hD
    exact wp_ptr (.tmp 18) rfl e18 c2.cellF Try.aggF (hK _ _ rfl (Below.refl _ _))
  · refine Obl.plain rfl _ rfl rfl [] (by kernel_rfl) fun a W hF hC hD K hK => ?_
    have e4 : a.tmps.getD 4 undef = .pointer (some ⟨b4, 0, none⟩) := hF.2.1
    clear hF hD hC
    exact wp_idx (.tmp 4) (.const (.int .i64 1)) rfl e4 1 rfl Try.underlying123 Try.sz98 (by decide) (hK _ _ rfl (Below.refl _ _))
  · refine Obl.plain rfl _ rfl rfl [13] (by kernel_rfl) fun a W hF hC hD K hK => ?_
    obtain ⟨c1, c2⟩ := hC
    have e20 : a.tmps.getD 20 undef = .pointer (some ⟨b4, 6, none⟩) := hD.1
    clear hF hD
    exact wpLd 98 (.tmp 20) rfl (c1.vb 0 _ rfl) 6 e20 (eE P n X.b) (part1 _ _ (eE_len P n _) (eE_len P n _)) (eE_len P n _) Try.underlying98 rfl Try.sz98 (hK _ _ rfl (Below.refl _ _))
  · refine Obl.plain rfl _ rfl rfl [] (by kernel_rfl) fun a W hF hC hD K hK => ?_
    have e5 : a.tmps.getD 5 undef = .pointer (some ⟨b5, 0, none⟩) := hF.2.2.1
    clear hF hD hC
    exact wp_idx (.tmp 5) (.const (.int .i64 1)) rfl e5 1 rfl Try.underlying123 Try.sz98 (by decide) (hK _ _ rfl (Below.refl _ _))
  · refine Obl.plain rfl _ rfl rfl [15] (by kernel_rfl) fun a W hF hC hD K hK => ?_
    obtain ⟨c1, c2⟩ := hC
    have e22 : a.tmps.getD 22 undef = .pointer (some ⟨b5, 6, none⟩) := hD.1
    clear hF hD
    exact wpLd 98 (.tmp 22) rfl (c1.vb 1 _ rfl) 6 e22 (eE P n Y.b) (part1 _ _ (eE_len P n _) (eE_len P n _)) (eE_len P n _) Try.underlying98 rfl Try.sz98 (hK _ _ rfl (Below.refl _ _))
  · refine Obl.plain rfl _ rfl rfl [12, 14, 16, 8] (by kernel_rfl) fun a W hF hC hD K hK => ?_
    obtain ⟨c1, c2⟩ := hC
    have e19 : a.tmps.getD 19 undef = .pointer (some ⟨bm, 0, none⟩) := hD.1
    have e21 : a.tmps.getD 21 undef = vE (mi P n X.b) := hD.2.1
    have e23 : a.tmps.getD 23 undef = vE (mi P n Y.b) := hD.2.2.1
    clear hF hD
    exact wp_callV #[a.tmps.getD 19 undef, a.tmps.getD 21 undef, a.tmps.getD 23 undef] #[.pointer (some ⟨bm, 0, none⟩), vE (mi P n X.b), vE (mi P n Y.b)] (vE (mi P n (X.b - Y.b))) (by kernel_rfl) (by rw [e19, e21, e23]) (isub X.b Y.b c2.fb) (fun w' hb => hK _ _ rfl hb)
  · refine Obl.plain rfl _ rfl rfl [8, 17] (by kernel_rfl) fun a W hF hC hD K hK => ?_
    have e15 : a.tmps.getD 15 undef = vE (mi P n (X.a - Y.a)) := hD.1
    have e24 : a.tmps.getD 24 undef = vE (mi P n (X.b - Y.b)) := hD.2.1
    clear hF hD hC
    exact wp_bld2 (.tmp 15) (.tmp 24) rfl e15 e24 Try.underlying123 Try.sz98 Try.zrE2 (eE_len P n _) (eE_len P n _) rfl (hK _ _ rfl (Below.refl _ _))
  rintro w1 hB hC _ rfl _ rfl _ rfl _ rfl _ rfl _ rfl _ rfl _ rfl _ rfl _ rfl _ rfl _ rfl _ rfl _ rfl _ rfl _ rfl _ rfl _ rfl _ rfl
  change Below _ _ _ at hB
  change wpList _ _ _ _ _ _
  simp only [List.drop_succ_cons, List.drop_zero, Act.put, List.setIfInBounds_toArray, List.set_cons_zero, List.set_cons_succ]
  have hS1 := hide (hS0.out.next hB)
  clear hB hC hS0
  go_wp2_with ((with_reducible refine storeWS (n := 12) (o := ⟨none, _, _, _, _, _⟩) ?_ 123 (.tmp 6) (.tmp 25) ?_ hS1.out 2 (c := ⟨b6, 123, z0 12⟩) ?_ ?_ (m2 P n (⟨X.a - Y.a, X.b - Y.b⟩)) ?_ ?_ ?_ ?_ Try.szE2 ?_); rfl; rfl; rfl; rfl; rfl; rfl; rfl; rfl; intro wz hZ hO)
  exact retS rfl hZ 2 (c := ⟨b6, 123, m2 P n (⟨X.a - Y.a, X.b - Y.b⟩)⟩) rfl rfl Try.underlying123 rfl Try.szE2 rfl ⟨rfl, hZ.bl⟩

set_option maxRecDepth 100000 in
set_option maxHeartbeats 3200000 in
theorem xconj2 {bt bm P n : Nat} {N : Int} {fr : List Value} {w : World} (X : Z2) (hT : TB w bt bm P n N fr) (hI : InvOk P) :
    Calls Try.prog 99 #[.pointer (some ⟨bt, 0, none⟩), .agg (m2 P n X).toArray] w fun e w' => e = .returned (.agg (m2 P n (Z2.conj X)).toArray) ∧ Below w.heap.size w w' := by
  have hT := hide hT
  have hI := hide hI
  go_enter Try.func99, Try.ntmps99
  have hq0 := hide (St.start w)
  go_upto_region 1 with (first
    | ((with_reducible refine boxS (o := ⟨some 3, _, _, _, _, _⟩) ?_ 123 (.tmp 1) ?_ hq0.out (m2 P n X) ?_ ?_); rfl; rfl; rfl; intro wq1 b3 hS; have hq1 : Hid (St w wq1 [⟨b3, 123, m2 P n X⟩]) := hide hS; clear hS)
    | ((with_reducible refine allocS (o := ⟨some 4, _, _, _, _, _⟩) ?_ 123 ?_ hq1.out (z0 12) Try.zrE2 ?_); rfl; rfl; intro wq2 b4 hS; have hq2 : Hid (St w wq2 [⟨b3, 123, m2 P n X⟩, ⟨b4, 123, z0 12⟩]) := hide hS; clear hS))
  have hS0 := hq2
  clear hq0 hq1 hq2
  go_upto_region 1 with fail
  refine region_do 10 15 [fun v _ => v = .pointer (some ⟨b3, 0, none⟩), fun v _ => v = vE (mi P n X.a), fun v _ => v = .pointer (some ⟨bt, 0, none⟩), fun v _ => v = .pointer (some ⟨bt, 0, none⟩), fun v _ => v = .pointer (some ⟨bt, 0, none⟩), fun v _ => v = .pointer (some ⟨bm, 0, none⟩), fun v _ => v = .pointer (some ⟨b3, 6, none⟩), fun v _ => v = vE (mi P n X.b), fun v _ => v = vE (mi P n (-X.b)), fun v _ => v = .agg (m2 P n (⟨X.a, -X.b⟩)).toArray]
    [(3, .pointer (some ⟨b3, 0, none⟩)), (0, .pointer (some ⟨bt, 0, none⟩))] (fun w' => St w w' [⟨b3, 123, m2 P n X⟩, ⟨b4, 123, z0 12⟩] ∧ TB w' bt bm P n N fr) (fun w' => True) 999 none (by kernel_rfl) (by kernel_rfl) rfl rfl
    (.cons (Fact.eq _) rfl (.cons (Fact.eq _) rfl (.cons (Fact.eq _) rfl (.cons (Fact.eq _) rfl (.cons (Fact.eq _) rfl (.cons (Fact.eq _) rfl (.cons (Fact.eq _) rfl (.cons (Fact.eq _) rfl (.cons (Fact.eq _) rfl (.cons (Fact.eq _) rfl (.nil _))))))))))) (fun w' h => ⟨hS0.out.next h, hT.out.next (hS0.out.next h).bl⟩) (fun w' h => trivial) (by kernel_rfl) (by exact ⟨rfl, rfl, trivial⟩) (.cons ?_ (.cons ?_ (.cons ?_ (.cons ?_ (.cons ?_ (.cons ?_ (.cons ?_ (.cons ?_ (.cons ?_ (.cons ?_ .nil)))))))))) ?_
  · refine Obl.plain rfl _ rfl rfl [] (by kernel_rfl) fun a W hF hC hD K hK => ?_
    have e3 : a.tmps.getD 3 undef = .pointer (some ⟨b3, 0, none⟩) := hF.1
    clear hF hD hC
    exact wp_idx (.tmp 3) (.const (.int .i64 0)) rfl e3 0 rfl Try.underlying123 Try.sz98 (by decide) (hK _ _ rfl (Below.refl _ _))
  · refine Obl.plain rfl _ rfl rfl [0] (by kernel_rfl) fun a W hF hC hD K hK => ?_
    obtain ⟨c1, c2⟩ := hC
    have e5 : a.tmps.getD 5 undef = .pointer (some ⟨b3, 0, none⟩) := hD.1
    clear hF hD
    exact wpLd 98 (.tmp 5) rfl (c1.vb 0 _ rfl) 0 e5 (eE P n X.a) (part0 _ _ (eE_len P n _)) (eE_len P n _) Try.underlying98 rfl Try.sz98 (hK _ _ rfl (Below.refl _ _))
  · refine Obl.plain rfl _ rfl rfl [] (by kernel_rfl) fun a W hF hC hD K hK => ?_
    have e0 : a.tmps.getD 0 undef = .pointer (some ⟨bt, 0, none⟩) := hF.2.1
    clear hF hD hC
    exact wp_move (.tmp 0) rfl e0 (hK _ _ rfl (Below.refl _ _))
  · refine Obl.plain rfl _ rfl rfl [2] (by kernel_rfl) fun a W hF hC hD K hK => ?_
    have e7 : a.tmps.getD 7 undef = .pointer (some ⟨bt, 0, none⟩) := hD.1
    clear hF hD hC
    exact wp_nil (.tmp 7) rfl e7 (hK _ _ rfl (Below.refl _ _))
  · refine Obl.plain rfl _ rfl rfl [3] (by kernel_rfl) fun a W hF hC hD K hK => ?_
    have e8 : a.tmps.getD 8 undef = .pointer (some ⟨bt, 0, none⟩) := hD.1
    clear hF hD hC
    exact wp_fld (.tmp 8) rfl e8 (Try.fldT0 _ W) (hK _ _ rfl (Below.refl _ _))
  · refine Obl.plain rfl _ rfl rfl [4] (by kernel_rfl) fun a W hF hC hD K hK => ?_
    obtain ⟨c1, c2⟩ := hC
    have e9 : a.tmps.getD 9 undef = .pointer (some ⟨bt, 0, none⟩) := hD.1
    clear hF hD
    exact wp_ptr (.tmp 9) rfl e9 c2.cellF Try.aggF (hK _ _ rfl (Below.refl _ _))
  · refine Obl.plain rfl _ rfl rfl [] (by kernel_rfl) fun a W hF hC hD K hK => ?_
    have e3 : a.tmps.getD 3 undef = .pointer (some ⟨b3, 0, none⟩) := hF.1
    clear hF hD hC
    exact wp_idx (.tmp 3) (.const (.int .i64 1)) rfl e3 1 rfl Try.underlying123 Try.sz98 (by decide) (hK _ _ rfl (Below.refl _ _))
  · refine Obl.plain rfl _ rfl rfl [6] (by kernel_rfl) fun a W hF hC hD K hK => ?_
    obtain ⟨c1, c2⟩ := hC
    have e11 : a.tmps.getD 11 undef = .pointer (some ⟨b3, 6, none⟩) := hD.1
    clear hF hD
    exact wpLd 98 (.tmp 11) rfl (c1.vb 0 _ rfl) 6 e11 (eE P n X.b) (part1 _ _ (eE_len P n _) (eE_len P n _)) (eE_len P n _) Try.underlying98 rfl Try.sz98 (hK _ _ rfl (Below.refl _ _))
  · refine Obl.plain rfl _ rfl rfl [5, 7] (by kernel_rfl) fun a W hF hC hD K hK => ?_
    obtain ⟨c1, c2⟩ := hC
    have e10 : a.tmps.getD 10 undef = .pointer (some ⟨bm, 0, none⟩) := hD.1
    have e12 : a.tmps.getD 12 undef = vE (mi P n X.b) := hD.2.1
    clear hF hD
    exact wp_callV #[a.tmps.getD 10 undef, a.tmps.getD 12 undef] #[.pointer (some ⟨bm, 0, none⟩), vE (mi P n X.b)] (vE (mi P n (-X.b))) (by kernel_rfl) (by rw [e10, e12]) (ineg X.b c2.fb) (fun w' hb => hK _ _ rfl hb)
  · refine Obl.plain rfl _ rfl rfl [1, 8] (by kernel_rfl) fun a W hF hC hD K hK => ?_
    have e6 : a.tmps.getD 6 undef = vE (mi P n X.a) := hD.1
    have e13 : a.tmps.getD 13 undef = vE (mi P n (-X.b)) := hD.2.1
    clear hF hD hC
    exact wp_bld2 (.tmp 6) (.tmp 13) rfl e6 e13 Try.underlying123 Try.sz98 Try.zrE2 (eE_len P n _) (eE_len P n _) rfl (hK _ _ rfl (Below.refl _ _))
  rintro w1 hB hC _ rfl _ rfl _ rfl _ rfl _ rfl _ rfl _ rfl _ rfl _ rfl _ rfl
  change Below _ _ _ at hB
  change wpList _ _ _ _ _ _
  simp only [List.drop_succ_cons, List.drop_zero, Act.put, List.setIfInBounds_toArray, List.set_cons_zero, List.set_cons_succ]
  have hS1 := hide (hS0.out.next hB)
  clear hB hC hS0
  go_wp2_with ((with_reducible refine storeWS (n := 12) (o := ⟨none, _, _, _, _, _⟩) ?_ 123 (.tmp 4) (.tmp 14) ?_ hS1.out 1 (c := ⟨b4, 123, z0 12⟩) ?_ ?_ (m2 P n (⟨X.a, -X.b⟩)) ?_ ?_ ?_ ?_ Try.szE2 ?_); rfl; rfl; rfl; rfl; rfl; rfl; rfl; rfl; intro wz hZ hO)
  exact retS rfl hZ 1 (c := ⟨b4, 123, m2 P n (⟨X.a, -X.b⟩)⟩) rfl rfl Try.underlying123 rfl Try.szE2 rfl ⟨rfl, hZ.bl⟩

set_option maxRecDepth 100000 in
set_option maxHeartbeats 3200000 in
theorem xmul2 {bt bm P n : Nat} {N : Int} {fr : List Value} {w : World} (X Y : Z2) (hT : TB w bt bm P n N fr) (hI : InvOk P) :
    Calls Try.prog 94 #[.pointer (some ⟨bt, 0, none⟩), .agg (m2 P n X).toArray, .agg (m2 P n Y).toArray] w fun e w' => e = .returned (.agg (m2 P n (Z2.mul X Y)).toArray) ∧ Below w.heap.size w w' := by
  have hT := hide hT
  have hI := hide hI
  go_enter Try.func94, Try.ntmps94
  have hq0 := hide (St.start w)
  go_upto_region 1 with (first
    | ((with_reducible refine boxS (o := ⟨some 4, _, _, _, _, _⟩) ?_ 123 (.tmp 1) ?_ hq0.out (m2 P n X) ?_ ?_); rfl; rfl; rfl; intro wq1 b4 hS; have hq1 : Hid (St w wq1 [⟨b4, 123, m2 P n X⟩]) := hide hS; clear hS)
    | ((with_reducible refine boxS (o := ⟨some 5, _, _, _, _, _⟩) ?_ 123 (.tmp 2) ?_ hq1.out (m2 P n Y) ?_ ?_); rfl; rfl; rfl; intro wq2 b5 hS; have hq2 : Hid (St w wq2 [⟨b4, 123, m2 P n X⟩, ⟨b5, 123, m2 P n Y⟩]) := hide hS; clear hS)
    | ((with_reducible refine allocS (o := ⟨some 6, _, _, _, _, _⟩) ?_ 123 ?_ hq2.out (z0 12) Try.zrE2 ?_); rfl; rfl; intro wq3 b6 hS; have hq3 : Hid (St w wq3 [⟨b4, 123, m2 P n X⟩, ⟨b5, 123, m2 P n Y⟩, ⟨b6, 123, z0 12⟩]) := hide hS; clear hS))
  have hS0 := hq3
  clear hq0 hq1 hq2 hq3
  go_upto_region 1 with fail
  refine region_seq 5 53 [fun v _ => v = .pointer (some ⟨bt, 0, none⟩), fun v _ => v = .pointer (some ⟨bt, 0, none⟩), fun v _ => v = .pointer (some ⟨bt, 0, none⟩), fun v _ => v = .pointer (some ⟨bm, 0, none⟩), fun v _ => v = .pointer (some ⟨bm, 0, none⟩)]
    [(0, .pointer (some ⟨bt, 0, none⟩))] (fun w' => St w w' [⟨b4, 123, m2 P n X⟩, ⟨b5, 123, m2 P n Y⟩, ⟨b6, 123, z0 12⟩] ∧ TB w' bt bm P n N fr) (fun w' => True) 999 none trivial (by kernel_rfl) rfl rfl
    (.cons (Fact.eq _) rfl (.cons (Fact.eq _) rfl (.cons (Fact.eq _) rfl (.cons (Fact.eq _) rfl (.cons (Fact.eq _) rfl (.nil _)))))) (fun w' h => ⟨hS0.out.next h, hT.out.next (hS0.out.next h).bl⟩) (fun w' h => trivial) (by kernel_rfl) (by exact ⟨rfl, trivial⟩) (.cons ?_ (.cons ?_ (.cons ?_ (.cons ?_ (.cons ?_ .nil))))) ?_
  · refine Obl.plain rfl _ rfl rfl [] (by kernel_rfl) fun a W hF hC hD K hK => ?_
    have e0 : a.tmps.getD 0 undef = .pointer (some ⟨bt, 0, none⟩) := hF.1
    clear hF hD hC
    exact wp_move (.tmp 0) rfl e0 (hK _ _ rfl (Below.refl _ _))
  · refine Obl.plain rfl _ rfl rfl [0] (by kernel_rfl) fun a W hF hC hD K hK => ?_
    have e11 : a.tmps.getD 11 undef = .pointer (some ⟨bt, 0, none⟩) := hD.1
    clear hF hD hC
    exact wp_nil (.tmp 11) rfl e11 (hK _ _ rfl (Below.refl _ _))
  · refine Obl.plain rfl _ rfl rfl [1] (by kernel_rfl) fun a W hF hC hD K hK => ?_
    have e12 : a.tmps.getD 12 undef = .pointer (some ⟨bt, 0, none⟩) := hD.1
    clear hF hD hC
    exact wp_fld (.tmp 12) rfl e12 (Try.fldT0 _ W) (hK _ _ rfl (Below.refl _ _))
  · refine Obl.plain rfl _ rfl rfl [2] (by kernel_rfl) fun a W hF hC hD K hK => ?_
    obtain ⟨c1, c2⟩ := hC
    have e13 : a.tmps.getD 13 undef = .pointer (some ⟨bt, 0, none⟩) := hD.1
    clear hF hD
    exact wp_ptr (.tmp 13) rfl e13 c2.cellF Try.aggF (hK _ _ rfl (Below.refl _ _))
  · refine Obl.plain rfl _ rfl rfl [3, 0, 1, 2, 3] (by kernel_rfl) fun a W hF hC hD K hK => ?_
    have e14 : a.tmps.getD 14 undef = .pointer (some ⟨bm, 0, none⟩) := hD.1
    clear hF hD hC
    exact wp_assign (.tmp 14) rfl e14 (hK _ _ rfl (Below.refl _ _))
  rintro w1 hB hC _ rfl _ rfl _ rfl _ rfl _ rfl
  change Below _ _ _ at hB
  change wpList _ _ _ _ _ _
  simp only [List.drop_succ_cons, List.drop_zero, Act.put, List.setIfInBounds_toArray, List.set_cons_zero, List.set_cons_succ]
  have hS1 := hide (hS0.out.next hB)
  clear hB hC hS0
  go_upto_region 2 with fail
  refine region_loc 16 53 [fun v _ => v = .pointer (some ⟨bm, 0, none⟩), fun v _ => v = .pointer (some ⟨b4, 0, none⟩), fun v _ => v = vE (mi P n X.a), fun v _ => v = .pointer (some ⟨b5, 0, none⟩), fun v _ => v = vE (mi P n Y.a), fun v _ => v = vE (mi P n (X.a * Y.a)), fun v _ => v = .pointer (some ⟨bm, 0, none⟩), fun v _ => v = .pointer (some ⟨b4, 6, none⟩), fun v _ => v = vE (mi P n X.b), fun v _ => v = .pointer (some ⟨b5, 6, none⟩), fun v _ => v = vE (mi P n Y.b), fun v _ => v = vE (mi P n (X.b * Y.b)), fun _ _ => True, fun _ _ => True, fun _ _ => True, fun _ _ => True]
    [(7, .pointer (some ⟨bm, 0, none⟩)), (4, .pointer (some ⟨b4, 0, none⟩)), (5, .pointer (some ⟨b5, 0, none⟩))] (fun w' => St w w' [⟨b4, 123, m2 P n X⟩, ⟨b5, 123, m2 P n Y⟩, ⟨b6, 123, z0 12⟩] ∧ TB w' bt bm P n N fr) [12, 13] 98 (ve 0) [(14, 12, eE P n (X.a * Y.a)), (15, 13, eE P n (X.b * Y.b))] (by kernel_rfl) (by kernel_rfl) rfl rfl
    (.cons (factB_eq _) (.cons (factB_eq _) (.cons (factB_eq _) (.cons (factB_eq _) (.cons (factB_eq _) (.cons (factB_eq _) (.cons (factB_eq _) (.cons (factB_eq _) (.cons (factB_eq _) (.cons (factB_eq _) (.cons (factB_eq _) (.cons (factB_eq _) (.cons (fun _ _ _ _ _ _ => trivial) (.cons (fun _ _ _ _ _ _ => trivial) (.cons (fun _ _ _ _ _ _ => trivial) (.cons (fun _ _ _ _ _ _ => trivial) .nil)))))))))))))))) (by kernel_rfl) (fun w' h => ⟨hS1.out.next h, hT.out.next (hS1.out.next h).bl⟩) (by kernel_rfl) (by exact ⟨rfl, rfl, rfl, trivial⟩) (by kernel_rfl) (allC ⟨⟨_, _, rfl, rfl, rfl, rfl⟩⟩ (allC ⟨⟨_, _, rfl, rfl, rfl, rfl⟩⟩ allN)) (allC (fun _ _ => trivial) (allC (fun _ _ => trivial) allN)) (by rfl) (allC ⟨⟨_, 8, 20, 5, rfl, rfl, rfl, rfl, rfl, rfl, by kernel_rfl, by kernel_rfl, fun v w h => h⟩⟩ (allC ⟨⟨_, 9, 26, 11, rfl, rfl, rfl, rfl, rfl, rfl, by kernel_rfl, by kernel_rfl, fun v w h => h⟩⟩ allN)) (allC (fun _ _ => trivial) (allC (fun _ _ => trivial) allN)) (show ([14, 15] : List Nat).Nodup by decide) Try.zr98 Try.sz98 (.cons (fun _ _ => ?_) (.cons (fun _ _ => ?_) (.cons (fun _ _ => ?_) (.cons (fun _ _ => ?_) (.cons (fun _ _ => ?_) (.cons (fun _ _ => ?_) (.cons (fun _ _ => ?_) (.cons (fun _ _ => ?_) (.cons (fun _ _ => ?_) (.cons (fun _ _ => ?_) (.cons (fun _ _ => ?_) (.cons (fun _ _ => ?_) (.cons (fun h _ => absurd h (by decide)) (.cons (fun h _ => absurd h (by decide)) (.cons (fun _ h => absurd (show true = false from h) (by decide)) (.cons (fun _ h => absurd (show true = false from h) (by decide)) .nil)))))))))))))))) ?_
  · refine Obl.plain rfl _ rfl rfl [] (by kernel_rfl) fun a W hF hC hD K hK => ?_
    have e7 : a.tmps.getD 7 undef = .pointer (some ⟨bm, 0, none⟩) := hF.1
    clear hF hD hC
    exact wp_move (.tmp 7) rfl e7 (hK _ _ rfl (Below.refl _ _))
  · refine Obl.plain rfl _ rfl rfl [] (by kernel_rfl) fun a W hF hC hD K hK => ?_
    have e4 : a.tmps.getD 4 undef = .pointer (some ⟨b4, 0, none⟩) := hF.2.1
    clear hF hD hC
    exact wp_idx (.tmp 4) (.const (.int .i64 0)) rfl e4 0 rfl Try.underlying123 Try.sz98 (by decide) (hK _ _ rfl (Below.refl _ _))
  · refine Obl.plain rfl _ rfl rfl [1] (by kernel_rfl) fun a W hF hC hD K hK => ?_
    obtain ⟨c1, c2⟩ := hC
    have e16 : a.tmps.getD 16 undef = .pointer (some ⟨b4, 0, none⟩) := hD.1
    clear hF hD
    exact wpLd 98 (.tmp 16) rfl (c1.vb 0 _ rfl) 0 e16 (eE P n X.a) (part0 _ _ (eE_len P n _)) (eE_len P n _) Try.underlying98 rfl Try.sz98 (hK _ _ rfl (Below.refl _ _))
  · refine Obl.plain rfl _ rfl rfl [] (by kernel_rfl) fun a W hF hC hD K hK => ?_
    have e5 : a.tmps.getD 5 undef = .pointer (some ⟨b5, 0, none⟩) := hF.2.2.1
    clear hF hD hC
    exact wp_idx (.tmp 5) (.const (.int .i64 0)) rfl e5 0 rfl Try.underlying123 Try.sz98 (by decide) (hK _ _ rfl (Below.refl _ _))
  · refine Obl.plain rfl _ rfl rfl [3] (by kernel_rfl) fun a W hF hC hD K hK => ?_
    obtain ⟨c1, c2⟩ := hC
    have e18 : a.tmps.getD 18 undef = .pointer (some ⟨b5, 0, none⟩) := hD.1
    clear hF hD
    exact wpLd 98 (.tmp 18) rfl (c1.vb 1 _ rfl) 0 e18 (eE P n Y.a) (part0 _ _ (eE_len P n _)) (eE_len P n _) Try.underlying98 rfl Try.sz98 (hK _ _ rfl (Below.refl _ _))
  · refine Obl.plain rfl _ rfl rfl [0, 2, 4] (by kernel_rfl) fun a W hF hC hD K hK => ?_
    obtain ⟨c1, c2⟩ := hC
    have e15 : a.tmps.getD 15 undef = .pointer (some ⟨bm, 0, none⟩) := hD.1
    have e17 : a.tmps.getD 17 undef = vE (mi P n X.a) := hD.2.1
    have e19 : a.tmps.getD 19 undef = vE (mi P n Y.a) := hD.2.2.1
    clear hF hD
    exact wp_callV #[a.tmps.getD 15 undef, a.tmps.getD 17 undef, a.tmps.getD 19 undef] #[.pointer (some ⟨bm, 0, none⟩), vE (mi P n X.a), vE (mi P n Y.a)] (vE (mi P n (X.a * Y.a))) (by kernel_rfl) (by rw [e15, e17, e19]) (imul X.a Y.a c2.fb hI.out) (fun w' hb => hK _ _ rfl hb)
  · refine Obl.plain rfl _ rfl rfl [] (by kernel_rfl) fun a W hF hC hD K hK => ?_
    have e7 : a.tmps.getD 7 undef = .pointer (some ⟨bm, 0, none⟩) := hF.1
    clear hF hD hC
    exact wp_move (.tmp 7) rfl e7 (hK _ _ rfl (Below.refl _ _))
  · refine Obl.plain rfl _ rfl rfl [] (by kernel_rfl) fun a W hF hC hD K hK => ?_
    have e4 : a.tmps.getD 4 undef = .pointer (some ⟨b4, 0, none⟩) := hF.2.1
    clear hF hD hC
    exact wp_idx (.tmp 4) (.const (.int .i64 1)) rfl e4 1 rfl Try.underlying123 Try.sz98 (by decide) (hK _ _ rfl (Below.refl _ _))
  · refine Obl.plain rfl _ rfl rfl [7] (by kernel_rfl) fun a W hF hC hD K hK => ?_
    obtain ⟨c1, c2⟩ := hC
    have e22 : a.tmps.getD 22 undef = .pointer (some ⟨b4, 6, none⟩) := hD.1
    clear hF hD
    exact wpLd 98 (.tmp 22) rfl (c1.vb 0 _ rfl) 6 e22 (eE P n X.b) (part1 _ _ (eE_len P n _) (eE_len P n _)) (eE_len P n _) Try.underlying98 rfl Try.sz98 (hK _ _ rfl (Below.refl _ _))
  · refine Obl.plain rfl _ rfl rfl [] (by kernel_rfl) fun a W hF hC hD K hK => ?_
    have e5 : a.tmps.getD 5 undef = .pointer (some ⟨b5, 0, none⟩) := hF.2.2.1
    clear hF hD hC
    exact wp_idx (.tmp 5) (.const (.int .i64 1)) rfl e5 1 rfl Try.underlying123 Try.sz98 (by decide) (hK _ _ rfl (Below.refl _ _))
  · refine Obl.plain rfl _ rfl rfl [9] (by kernel_rfl) fun a W hF hC hD K hK => ?_
    obtain ⟨c1, c2⟩ := hC
    have e24 : a.tmps.getD 24 undef = .pointer (some ⟨b5, 6, none⟩) := hD.1
    clear hF hD
    exact wpLd 98 (.tmp 24) rfl (c1.vb 1 _ rfl) 6 e24 (eE P n Y.b) (part1 _ _ (eE_len P n _) (eE_len P n _)) (eE_len P n _) Try.underlying98 rfl Try.sz98 (hK _ _ rfl (Below.refl _ _))
  · refine Obl.plain rfl _ rfl rfl [6, 8, 10, 5] (by kernel_rfl) fun a W hF hC hD K hK => ?_
    obtain ⟨c1, c2⟩ := hC
    have e21 : a.tmps.getD 21 undef = .pointer (some ⟨bm, 0, none⟩) := hD.1
    have e23 : a.tmps.getD 23 undef = vE (mi P n X.b) := hD.2.1
    have e25 : a.tmps.getD 25 undef = vE (mi P n Y.b) := hD.2.2.1
    clear hF hD
    exact wp_callV #[a.tmps.getD 21 undef, a.tmps.getD 23 undef, a.tmps.getD 25 undef] #[.pointer (some ⟨bm, 0, none⟩), vE (mi P n X.b), vE (mi P n Y.b)] (vE (mi P n (X.b * Y.b))) (by kernel_rfl) (by rw [e21, e23, e25]) (imul X.b Y.b c2.fb hI.out) (fun w' hb => hK _ _ rfl hb)
  rintro w2 bs hB hC hAl hDl hSl _ rfl _ rfl _ rfl _ rfl _ rfl _ rfl _ rfl _ rfl _ rfl _ rfl _ rfl _ rfl _ rfl _ rfl _ - _ -
  obtain ⟨hlb8, Lb8, hvb8, hnb8⟩ := hAl 12 (by decide)
  obtain ⟨hlb9, Lb9, hvb9, hnb9⟩ := hAl 13 (by decide)
  have hdb8b9 := hDl 12 13 (by decide) (by decide) (by decide)
  have hsb8 := hSl _ (.head _)
  have hsb9 := hSl _ (.tail _ (.head _))
  clear hAl hDl hSl
  change _ ≤ bs 12 at hlb8
  change _ ≤ bs 13 at hlb9
  change VB _ (bs 12) _ _ at hsb8
  change VB _ (bs 13) _ _ at hsb9
  change wpList _ _ _ _ _ _
  simp only [List.drop_succ_cons, List.drop_zero, Act.put, List.setIfInBounds_toArray, List.set_cons_zero, List.set_cons_succ]
  generalize bs 12 = b8 at *
  generalize bs 13 = b9 at *
  clear bs
  have hS2 : Hid (St w w2 [⟨b4, 123, m2 P n X⟩, ⟨b5, 123, m2 P n Y⟩, ⟨b6, 123, z0 12⟩, ⟨b8, 98, eE P n (X.a * Y.a)⟩, ⟨b9, 98, eE P n (X.b * Y.b)⟩]) := hide (hS1.out.pushL hB [⟨b8, 98, eE P n (X.a * Y.a)⟩, ⟨b9, 98, eE P n (X.b * Y.b)⟩] ⟨hlb8, hsb8, (fun d hd => by simp at hd; subst hd; exact hdb8b9), hlb9, hsb9, (fun d hd => by cases hd), trivial⟩)
  clear hB hC hS1 hlb8 hsb8 hvb8 hnb8 hlb9 hsb9 hvb9 hnb9 hdb8b9
  go_upto_region 3 with fail
  refine region_loc 16 53 [fun v _ => v = .pointer (some ⟨bm, 0, none⟩), fun v _ => v = .pointer (some ⟨bm, 0, none⟩), fun v _ => v = .pointer (some ⟨b4, 0, none⟩), fun v _ => v = vE (mi P n X.a), fun v _ => v = .pointer (some ⟨b4, 6, none⟩), fun v _ => v = vE (mi P n X.b), fun v _ => v = vE (mi P n (X.a + X.b)), fun v _ => v = .pointer (some ⟨bm, 0, none⟩), fun v _ => v = .pointer (some ⟨b5, 0, none⟩), fun v _ => v = vE (mi P n Y.a), fun v _ => v = .pointer (some ⟨b5, 6, none⟩), fun v _ => v = vE (mi P n Y.b), fun v _ => v = vE (mi P n (Y.a + Y.b)), fun v _ => v = vE (mi P n ((X.a + X.b) * (Y.a + Y.b))), fun _ _ => True, fun _ _ => True]
    [(7, .pointer (some ⟨bm, 0, none⟩)), (4, .pointer (some ⟨b4, 0, none⟩)), (5, .pointer (some ⟨b5, 0, none⟩))] (fun w' => St w w' [⟨b4, 123, m2 P n X⟩, ⟨b5, 123, m2 P n Y⟩, ⟨b6, 123, z0 12⟩, ⟨b8, 98, eE P n (X.a * Y.a)⟩, ⟨b9, 98, eE P n (X.b * Y.b)⟩] ∧ TB w' bt bm P n N fr) [14] 98 (ve 0) [(15, 14, eE P n ((X.a + X.b) * (Y.a + Y.b)))] (by kernel_rfl) (by kernel_rfl) rfl rfl
    (.cons (factB_eq _) (.cons (factB_eq _) (.cons (factB_eq _) (.cons (factB_eq _) (.cons (factB_eq _) (.cons (factB_eq _) (.cons (factB_eq _) (.cons (factB_eq _) (.cons (factB_eq _) (.cons (factB_eq _) (.cons (factB_eq _) (.cons (factB_eq _) (.cons (factB_eq _) (.cons (factB_eq _) (.cons (fun _ _ _ _ _ _ => trivial) (.cons (fun _ _ _ _ _ _ => trivial) .nil)))))))))))))))) (by kernel_rfl) (fun w' h => ⟨hS2.out.next h, hT.out.next (hS2.out.next h).bl⟩) (by kernel_rfl) (by exact ⟨rfl, rfl, rfl, trivial⟩) (by kernel_rfl) (allC ⟨⟨_, _, rfl, rfl, rfl, rfl⟩⟩ allN) (allC (fun _ _ => trivial) allN) (by rfl) (allC ⟨⟨_, 10, 40, 13, rfl, rfl, rfl, rfl, rfl, rfl, by kernel_rfl, by kernel_rfl, fun v w h => h⟩⟩ allN) (allC (fun _ _ => trivial) allN) (show ([15] : List Nat).Nodup by decide) Try.zr98 Try.sz98 (.cons (fun _ _ => ?_) (.cons (fun _ _ => ?_) (.cons (fun _ _ => ?_) (.cons (fun _ _ => ?_) (.cons (fun _ _ => ?_) (.cons (fun _ _ => ?_) (.cons (fun _ _ => ?_) (.cons (fun _ _ => ?_) (.cons (fun _ _ => ?_) (.cons (fun _ _ => ?_) (.cons (fun _ _ => ?_) (.cons (fun _ _ => ?_) (.cons (fun _ _ => ?_) (.cons (fun _ _ => ?_) (.cons (fun h _ => absurd h (by decide)) (.cons (fun _ h => absurd (show true = false from h) (by decide)) .nil)))))))))))))))) ?_
  · refine Obl.plain rfl _ rfl rfl [] (by kernel_rfl) fun a W hF hC hD K hK => ?_
    have e7 : a.tmps.getD 7 undef = .pointer (some ⟨bm, 0, none⟩) := hF.1
    clear hF hD hC
    exact wp_move (.tmp 7) rfl e7 (hK _ _ rfl (Below.refl _ _))
  · refine Obl.plain rfl _ rfl rfl [] (by kernel_rfl) fun a W hF hC hD K hK => ?_
    have e7 : a.tmps.getD 7 undef = .pointer (some ⟨bm, 0, none⟩) := hF.1
    clear hF hD hC
    exact wp_move (.tmp 7) rfl e7 (hK _ _ rfl (Below.refl _ _))
  · refine Obl.plain rfl _ rfl rfl [] (by kernel_rfl) fun a W hF hC hD K hK => ?_
    have e4 : a.tmps.getD 4 undef = .pointer (some ⟨b4, 0, none⟩) := hF.2.1
    clear hF hD hC
    exact wp_idx (.tmp 4) (.const (.int .i64 0)) rfl e4 0 rfl Try.underlying123 Try.sz98 (by decide) (hK _ _ rfl (Below.refl _ _))
  · refine Obl.plain rfl _ rfl rfl [2] (by kernel_rfl) fun a W hF hC hD K hK => ?_
    obtain ⟨c1, c2⟩ := hC
    have e29 : a.tmps.getD 29 undef = .pointer (some ⟨b4, 0, none⟩) := hD.1
    clear hF hD
    exact wpLd 98 (.tmp 29) rfl (c1.vb 0 _ rfl) 0 e29 (eE P n X.a) (part0 _ _ (eE_len P n _)) (eE_len P n _) Try.underlying98 rfl Try.sz98 (hK _ _ rfl (Below.refl _ _))
  · refine Obl.plain rfl _ rfl rfl [] (by kernel_rfl) fun a W hF hC hD K hK => ?_
    have e4 : a.tmps.getD 4 undef = .pointer (some ⟨b4, 0, none⟩) := hF.2.1
    clear hF hD hC
    exact wp_idx (.tmp 4) (.const (.int .i64 1)) rfl e4 1 rfl Try.underlying123 Try.sz98 (by decide) (hK _ _ rfl (Below.refl _ _))
  · refine Obl.plain rfl _ rfl rfl [4] (by kernel_rfl) fun a W hF hC hD K hK => ?_
    obtain ⟨c1, c2⟩ := hC
    have e31 : a.tmps.getD 31 undef = .pointer (some ⟨b4, 6, none⟩) := hD.1
    clear hF hD
    exact wpLd 98 (.tmp 31) rfl (c1.vb 0 _ rfl) 6 e31 (eE P n X.b) (part1 _ _ (eE_len P n _) (eE_len P n _)) (eE_len P n _) Try.underlying98 rfl Try.sz98 (hK _ _ rfl (Below.refl _ _))
  · refine Obl.plain rfl _ rfl rfl [1, 3, 5] (by kernel_rfl) fun a W hF hC hD K hK => ?_
    obtain ⟨c1, c2⟩ := hC
    have e28 : a.tmps.getD 28 undef = .pointer (some ⟨bm, 0, none⟩) := hD.1
    have e30 : a.tmps.getD 30 undef = vE (mi P n X.a) := hD.2.1
    have e32 : a.tmps.getD 32 undef = vE (mi P n X.b) := hD.2.2.1
    clear hF hD
    exact wp_callV #[a.tmps.getD 28 undef, a.tmps.getD 30 undef, a.tmps.getD 32 undef] #[.pointer (some ⟨bm, 0, none⟩), vE (mi P n X.a), vE (mi P n X.b)] (vE (mi P n (X.a + X.b))) (by kernel_rfl) (by rw [e28, e30, e32]) (iadd X.a X.b c2.fb) (fun w' hb => hK _ _ rfl hb)
  · refine Obl.plain rfl _ rfl rfl [] (by kernel_rfl) fun a W hF hC hD K hK => ?_
    have e7 : a.tmps.getD 7 undef = .pointer (some ⟨bm, 0, none⟩) := hF.1
    clear hF hD hC
    exact wp_move (.tmp 7) rfl e7 (hK _ _ rfl (Below.refl _ _))
  · refine Obl.plain rfl _ rfl rfl [] (by kernel_rfl) fun a W hF hC hD K hK => ?_
    have e5 : a.tmps.getD 5 undef = .pointer (some ⟨b5, 0, none⟩) := hF.2.2.1
    clear hF hD hC
    exact wp_idx (.tmp 5) (.const (.int .i64 0)) rfl e5 0 rfl Try.underlying123 Try.sz98 (by decide) (hK _ _ rfl (Below.refl _ _))
  · refine Obl.plain rfl _ rfl rfl [8] (by kernel_rfl) fun a W hF hC hD K hK => ?_
    obtain ⟨c1, c2⟩ := hC
    have e35 : a.tmps.getD 35 undef = .pointer (some ⟨b5, 0, none⟩) := hD.1
    clear hF hD
    exact wpLd 98 (.tmp 35) rfl (c1.vb 1 _ rfl) 0 e35 (eE P n Y.a) (part0 _ _ (eE_len P n _)) (eE_len P n _) Try.underlying98 rfl Try.sz98 (hK _ _ rfl (Below.refl _ _))
  · refine Obl.plain rfl _ rfl rfl [] (by kernel_rfl) fun a W hF hC hD K hK => ?_
    have e5 : a.tmps.getD 5 undef = .pointer (some ⟨b5, 0, none⟩) := hF.2.2.1
    clear hF hD hC
    exact wp_idx (.tmp 5) (.const (.int .i64 1)) rfl e5 1 rfl Try.underlying123 Try.sz98 (by decide) (hK _ _ rfl (Below.refl _ _))
  · refine Obl.plain rfl _ rfl rfl [10] (by kernel_rfl) fun a W hF hC hD K hK => ?_
    obtain ⟨c1, c2⟩ := hC
    have e37 : a.tmps.getD 37 undef = .pointer (some ⟨b5, 6, none⟩) := hD.1
    clear hF hD
    exact wpLd 98 (.tmp 37) rfl (c1.vb 1 _ rfl) 6 e37 (eE P n Y.b) (part1 _ _ (eE_len P n _) (eE_len P n _)) (eE_len P n _) Try.underlying98 rfl Try.sz98 (hK _ _ rfl (Below.refl _ _))
  · refine Obl.plain rfl _ rfl rfl [7, 9, 11, 6] (by kernel_rfl) fun a W hF hC hD K hK => ?_
    obtain ⟨c1, c2⟩ := hC
    have e34 : a.tmps.getD 34 undef = .pointer (some ⟨bm, 0, none⟩) := hD.1
    have e36 : a.tmps.getD 36 undef = vE (mi P n Y.a) := hD.2.1
    have e38 : a.tmps.getD 38 undef = vE (mi P n Y.b) := hD.2.2.1
    clear hF hD
    exact wp_callV #[a.tmps.getD 34 undef, a.tmps.getD 36 undef, a.tmps.getD 38 undef] #[.pointer (some ⟨bm, 0, none⟩), vE (mi P n Y.a), vE (mi P n Y.b)] (vE (mi P n (Y.a + Y.b))) (by kernel_rfl) (by rw [e34, e36, e38]) (iadd Y.a Y.b c2.fb) (fun w' hb => hK _ _ rfl hb)
  · refine Obl.plain rfl _ rfl rfl [0, 6, 12, 12] (by kernel_rfl) fun a W hF hC hD K hK => ?_
    obtain ⟨c1, c2⟩ := hC
    have e27 : a.tmps.getD 27 undef = .pointer (some ⟨bm, 0, none⟩) := hD.1
    have e33 : a.tmps.getD 33 undef = vE (mi P n (X.a + X.b)) := hD.2.1
    have e39 : a.tmps.getD 39 undef = vE (mi P n (Y.a + Y.b)) := hD.2.2.1
    clear hF hD
    exact wp_callV #[a.tmps.getD 27 undef, a.tmps.getD 33 undef, a.tmps.getD 39 undef] #[.pointer (some ⟨bm, 0, none⟩), vE (mi P n (X.a + X.b)), vE (mi P n (Y.a + Y.b))] (vE (mi P n ((X.a + X.b) * (Y.a + Y.b)))) (by kernel_rfl) (by rw [e27, e33, e39]) (imul (X.a + X.b) (Y.a + Y.b) c2.fb hI.out) (fun w' hb => hK _ _ rfl hb)
  rintro w3 bs hB hC hAl hDl hSl _ rfl _ rfl _ rfl _ rfl _ rfl _ rfl _ rfl _ rfl _ rfl _ rfl _ rfl _ rfl _ rfl _ rfl _ rfl _ -
  obtain ⟨hlb10, Lb10, hvb10, hnb10⟩ := hAl 14 (by decide)
  have hsb10 := hSl _ (.head _)
  clear hAl hDl hSl
  change _ ≤ bs 14 at hlb10
  change VB _ (bs 14) _ _ at hsb10
  change wpList _ _ _ _ _ _
  simp only [List.drop_succ_cons, List.drop_zero, Act.put, List.setIfInBounds_toArray, List.set_cons_zero, List.set_cons_succ]
  generalize bs 14 = b10 at *
  clear bs
  have hS3 : Hid (St w w3 [⟨b4, 123, m2 P n X⟩, ⟨b5, 123, m2 P n Y⟩, ⟨b6, 123, z0 12⟩, ⟨b8, 98, eE P n (X.a * Y.a)⟩, ⟨b9, 98, eE P n (X.b * Y.b)⟩, ⟨b10, 98, eE P n ((X.a + X.b) * (Y.a + Y.b))⟩]) := hide (hS2.out.pushL hB [⟨b10, 98, eE P n ((X.a + X.b) * (Y.a + Y.b))⟩] ⟨hlb10, hsb10, (fun d hd => by cases hd), trivial⟩)
  clear hB hC hS2 hlb10 hsb10 hvb10 hnb10 
  go_upto_region 4 with fail
  refine region_do 12 53 [fun v _ => v = .pointer (some ⟨bm, 0, none⟩), fun v _ => v = vE (mi P n (X.a * Y.a)), fun v _ => v = vE (mi P n (X.b * Y.b)), fun v _ => v = vE (mi P n ((X.a * Y.a) - (X.b * Y.b))), fun v _ => v = .pointer (some ⟨bm, 0, none⟩), fun v _ => v = .pointer (some ⟨bm, 0, none⟩), fun v _ => v = vE (mi P n ((X.a + X.b) * (Y.a + Y.b))), fun v _ => v = vE (mi P n (X.a * Y.a)), fun v _ => v = vE (mi P n (((X.a + X.b) * (Y.a + Y.b)) - (X.a * Y.a))), fun v _ => v = vE (mi P n (X.b * Y.b)), fun v _ => v = vE (mi P n ((((X.a + X.b) * (Y.a + Y.b)) - (X.a * Y.a)) - (X.b * Y.b))), fun v _ => v = .agg (m2 P n (⟨(X.a * Y.a) - (X.b * Y.b), (((X.a + X.b) * (Y.a + Y.b)) - (X.a * Y.a)) - (X.b * Y.b)⟩)).toArray]
    [(7, .pointer (some ⟨bm, 0, none⟩)), (8, .pointer (some ⟨b8, 0, none⟩)), (9, .pointer (some ⟨b9, 0, none⟩)), (10, .pointer (some ⟨b10, 0, none⟩))] (fun w' => St w w' [⟨b4, 123, m2 P n X⟩, ⟨b5, 123, m2 P n Y⟩, ⟨b6, 123, z0 12⟩, ⟨b8, 98, eE P n (X.a * Y.a)⟩, ⟨b9, 98, eE P n (X.b * Y.b)⟩, ⟨b10, 98, eE P n ((X.a + X.b) * (Y.a + Y.b))⟩] ∧ TB w' bt bm P n N fr) (fun w' => True) 999 none (by kernel_rfl) (by kernel_rfl) rfl rfl
    (.cons (Fact.eq _) rfl (.cons (Fact.eq _) rfl (.cons (Fact.eq _) rfl (.cons (Fact.eq _) rfl (.cons (Fact.eq _) rfl (.cons (Fact.eq _) rfl (.cons (Fact.eq _) rfl (.cons (Fact.eq _) rfl (.cons (Fact.eq _) rfl (.cons (Fact.eq _) rfl (.cons (Fact.eq _) rfl (.cons (Fact.eq _) rfl (.nil _))))))))))))) (fun w' h => ⟨hS3.out.next h, hT.out.next (hS3.out.next h).bl⟩) (fun w' h => trivial) (by kernel_rfl) (by exact ⟨rfl, rfl, rfl, rfl, trivial⟩) (.cons ?_ (.cons ?_ (.cons ?_ (.cons ?_ (.cons ?_ (.cons ?_ (.cons ?_ (.cons ?_ (.cons ?_ (.cons ?_ (.cons ?_ (.cons ?_ .nil)))))))))))) ?_
  · refine Obl.plain rfl _ rfl rfl [] (by kernel_rfl) fun a W hF hC hD K hK => ?_
    have e7 : a.tmps.getD 7 undef = .pointer (some ⟨bm, 0, none⟩) := hF.1
    clear hF hD hC
    exact wp_move (.tmp 7) rfl e7 (hK _ _ rfl (Below.refl _ _))
  · refine Obl.plain rfl _ rfl rfl [] (by kernel_rfl) fun a W hF hC hD K hK => ?_
    obtain ⟨c1, c2⟩ := hC
    have e8 : a.tmps.getD 8 undef = .pointer (some ⟨b8, 0, none⟩) := hF.2.1
    clear hF hD
    exact wpLd 98 (.tmp 8) rfl (c1.vb 3 _ rfl) 0 e8 (eE P n (X.a * Y.a)) (part_all _ (eE_len P n _)) (eE_len P n _) Try.underlying98 rfl Try.sz98 (hK _ _ rfl (Below.refl _ _))
  · refine Obl.plain rfl _ rfl rfl [] (by kernel_rfl) fun a W hF hC hD K hK => ?_
    obtain ⟨c1, c2⟩ := hC
    have e9 : a.tmps.getD 9 undef = .pointer (some ⟨b9, 0, none⟩) := hF.2.2.1
    clear hF hD
    exact wpLd 98 (.tmp 9) rfl (c1.vb 4 _ rfl) 0 e9 (eE P n (X.b * Y.b)) (part_all _ (eE_len P n _)) (eE_len P n _) Try.underlying98 rfl Try.sz98 (hK _ _ rfl (Below.refl _ _))
  · refine Obl.plain rfl _ rfl rfl [0, 1, 2] (by kernel_rfl) fun a W hF hC hD K hK => ?_
    obtain ⟨c1, c2⟩ := hC
    have e41 : a.tmps.getD 41 undef = .pointer (some ⟨bm, 0, none⟩) := hD.1
    have e42 : a.tmps.getD 42 undef = vE (mi P n (X.a * Y.a)) := hD.2.1
    have e43 : a.tmps.getD 43 undef = vE (mi P n (X.b * Y.b)) := hD.2.2.1
    clear hF hD
    exact wp_callV #[a.tmps.getD 41 undef, a.tmps.getD 42 undef, a.tmps.getD 43 undef] #[.pointer (some ⟨bm, 0, none⟩), vE (mi P n (X.a * Y.a)), vE (mi P n (X.b * Y.b))] (vE (mi P n ((X.a * Y.a) - (X.b * Y.b)))) (by kernel_rfl) (by rw [e41, e42, e43]) (isub (X.a * Y.a) (X.b * Y.b) c2.fb) (fun w' hb => hK _ _ rfl hb)
  · refine Obl.plain rfl _ rfl rfl [] (by kernel_rfl) fun a W hF hC hD K hK => ?_
    have e7 : a.tmps.getD 7 undef = .pointer (some ⟨bm, 0, none⟩) := hF.1
    clear hF hD hC
    exact wp_move (.tmp 7) rfl e7 (hK _ _ rfl (Below.refl _ _))
  · refine Obl.plain rfl _ rfl rfl [] (by kernel_rfl) fun a W hF hC hD K hK => ?_
    have e7 : a.tmps.getD 7 undef = .pointer (some ⟨bm, 0, none⟩) := hF.1
    clear hF hD hC
    exact wp_move (.tmp 7) rfl e7 (hK _ _ rfl (Below.refl _ _))
  · refine Obl.plain rfl _ rfl rfl [] (by kernel_rfl) fun a W hF hC hD K hK => ?_
    obtain ⟨c1, c2⟩ := hC
    have e10 : a.tmps.getD 10 undef = .pointer (some ⟨b10, 0, none⟩) := hF.2.2.2.1
    clear hF hD
    exact wpLd 98 (.tmp 10) rfl (c1.vb 5 _ rfl) 0 e10 (eE P n ((X.a + X.b) * (Y.a + Y.b))) (part_all _ (eE_len P n _)) (eE_len P n _) Try.underlying98 rfl Try.sz98 (hK _ _ rfl (Below.refl _ _))
  · refine Obl.plain rfl _ rfl rfl [] (by kernel_rfl) fun a W hF hC hD K hK => ?_
    obtain ⟨c1, c2⟩ := hC
    have e8 : a.tmps.getD 8 undef = .pointer (some ⟨b8, 0, none⟩) := hF.2.1
    clear hF hD
    exact wpLd 98 (.tmp 8) rfl (c1.vb 3 _ rfl) 0 e8 (eE P n (X.a * Y.a)) (part_all _ (eE_len P n _)) (eE_len P n _) Try.underlying98 rfl Try.sz98 (hK _ _ rfl (Below.refl _ _))
  · refine Obl.plain rfl _ rfl rfl [5, 6, 7, 3] (by kernel_rfl) fun a W hF hC hD K hK => ?_
    obtain ⟨c1, c2⟩ := hC
    have e46 : a.tmps.getD 46 undef = .pointer (some ⟨bm, 0, none⟩) := hD.1
    have e47 : a.tmps.getD 47 undef = vE (mi P n ((X.a + X.b) * (Y.a + Y.b))) := hD.2.1
    have e48 : a.tmps.getD 48 undef = vE (mi P n (X.a * Y.a)) := hD.2.2.1
    clear hF hD
    exact wp_callV #[a.tmps.getD 46 undef, a.tmps.getD 47 undef, a.tmps.getD 48 undef] #[.pointer (some ⟨bm, 0, none⟩), vE (mi P n ((X.a + X.b) * (Y.a + Y.b))), vE (mi P n (X.a * Y.a))] (vE (mi P n (((X.a + X.b) * (Y.a + Y.b)) - (X.a * Y.a)))) (by kernel_rfl) (by rw [e46, e47, e48]) (isub ((X.a + X.b) * (Y.a + Y.b)) (X.a * Y.a) c2.fb) (fun w' hb => hK _ _ rfl hb)
  · refine Obl.plain rfl _ rfl rfl [] (by kernel_rfl) fun a W hF hC hD K hK => ?_
    obtain ⟨c1, c2⟩ := hC
    have e9 : a.tmps.getD 9 undef = .pointer (some ⟨b9, 0, none⟩) := hF.2.2.1
    clear hF hD
    exact wpLd 98 (.tmp 9) rfl (c1.vb 4 _ rfl) 0 e9 (eE P n (X.b * Y.b)) (part_all _ (eE_len P n _)) (eE_len P n _) Try.underlying98 rfl Try.sz98 (hK _ _ rfl (Below.refl _ _))
  · refine Obl.plain rfl _ rfl rfl [4, 8, 9, 8] (by kernel_rfl) fun a W hF hC hD K hK => ?_
    obtain ⟨c1, c2⟩ := hC
    have e45 : a.tmps.getD 45 undef = .pointer (some ⟨bm, 0, none⟩) := hD.1
    have e49 : a.tmps.getD 49 undef = vE (mi P n (((X.a + X.b) * (Y.a + Y.b)) - (X.a * Y.a))) := hD.2.1
    have e50 : a.tmps.getD 50 undef = vE (mi P n (X.b * Y.b)) := hD.2.2.1
    clear hF hD
    exact wp_callV #[a.tmps.getD 45 undef, a.tmps.getD 49 undef, a.tmps.getD 50 undef] #[.pointer (some ⟨bm, 0, none⟩), vE (mi P n (((X.a + X.b) * (Y.a + Y.b)) - (X.a * Y.a))), vE (mi P n (X.b * Y.b))] (vE (mi P n ((((X.a + X.b) * (Y.a + Y.b)) - (X.a * Y.a)) - (X.b * Y.b)))) (by kernel_rfl) (by rw [e45, e49, e50]) (isub (((X.a + X.b) * (Y.a + Y.b)) - (X.a * Y.a)) (X.b * Y.b) c2.fb) (fun w' hb => hK _ _ rfl hb)
  · refine Obl.plain rfl _ rfl rfl [3, 10] (by kernel_rfl) fun a W hF hC hD K hK => ?_
    have e44 : a.tmps.getD 44 undef = vE (mi P n ((X.a * Y.a) - (X.b * Y.b))) := hD.1
    have e51 : a.tmps.getD 51 undef = vE (mi P n ((((X.a + X.b) * (Y.a + Y.b)) - (X.a * Y.a)) - (X.b * Y.b))) := hD.2.1
    clear hF hD hC
    exact wp_bld2 (.tmp 44) (.tmp 51) rfl e44 e51 Try.underlying123 Try.sz98 Try.zrE2 (eE_len P n _) (eE_len P n _) rfl (hK _ _ rfl (Below.refl _ _))
  rintro w4 hB hC _ rfl _ rfl _ rfl _ rfl _ rfl _ rfl _ rfl _ rfl _ rfl _ rfl _ rfl _ rfl
  change Below _ _ _ at hB
  change wpList _ _ _ _ _ _
  simp only [List.drop_succ_cons, List.drop_zero, Act.put, List.setIfInBounds_toArray, List.set_cons_zero, List.set_cons_succ]
  have hS4 := hide (hS3.out.next hB)
  clear hB hC hS3
  go_wp2_with ((with_reducible refine storeWS (n := 12) (o := ⟨none, _, _, _, _, _⟩) ?_ 123 (.tmp 6) (.tmp 52) ?_ hS4.out 2 (c := ⟨b6, 123, z0 12⟩) ?_ ?_ (m2 P n (⟨(X.a * Y.a) - (X.b * Y.b), (((X.a + X.b) * (Y.a + Y.b)) - (X.a * Y.a)) - (X.b * Y.b)⟩)) ?_ ?_ ?_ ?_ Try.szE2 ?_); rfl; rfl; rfl; rfl; rfl; rfl; rfl; rfl; intro wz hZ hO)
  exact retS rfl hZ 2 (c := ⟨b6, 123, m2 P n (⟨(X.a * Y.a) - (X.b * Y.b), (((X.a + X.b) * (Y.a + Y.b)) - (X.a * Y.a)) - (X.b * Y.b)⟩)⟩) rfl rfl Try.underlying123 rfl Try.szE2 rfl ⟨congrArg (fun z => Ending.returned (.agg (m2 P n z).toArray)) (kara2 X Y), hZ.bl⟩

set_option maxRecDepth 100000 in
set_option maxHeartbeats 3200000 in
theorem xup2 {bt bm P n : Nat} {N : Int} {fr : List Value} {w : World} (X : Z2) (hT : TB w bt bm P n N fr) (hI : InvOk P) :
    Calls Try.prog 134 #[.pointer (some ⟨bt, 0, none⟩), .agg (m2 P n X).toArray] w fun e w' => e = .returned (.agg (m2 P n (Z2.up N X)).toArray) ∧ Below w.heap.size w w' := by
  have hT := hide hT
  have hI := hide hI
  go_enter Try.func134, Try.ntmps134
  have hq0 := hide (St.start w)
  go_upto_region 1 with (first
    | ((with_reducible refine boxS (o := ⟨some 3, _, _, _, _, _⟩) ?_ 123 (.tmp 1) ?_ hq0.out (m2 P n X) ?_ ?_); rfl; rfl; rfl; intro wq1 b3 hS; have hq1 : Hid (St w wq1 [⟨b3, 123, m2 P n X⟩]) := hide hS; clear hS)
    | ((with_reducible refine allocS (o := ⟨some 4, _, _, _, _, _⟩) ?_ 123 ?_ hq1.out (z0 12) Try.zrE2 ?_); rfl; rfl; intro wq2 b4 hS; have hq2 : Hid (St w wq2 [⟨b3, 123, m2 P n X⟩, ⟨b4, 123, z0 12⟩]) := hide hS; clear hS))
  have hS0 := hq2
  clear hq0 hq1 hq2
  go_upto_region 1 with fail
  refine region_do 7 12 [fun v _ => v = .pointer (some ⟨bt, 0, none⟩), fun v _ => v = .agg (m2 P n X).toArray, fun v _ => v = .pointer (some ⟨bt, 0, none⟩), fun v _ => v = .pointer (some ⟨bt, 0, none⟩), fun v _ => v = .pointer (some ⟨bt, 1, none⟩), fun v _ => v = .agg (m2 P n ((xi N))).toArray, fun v _ => v = .agg (m2 P n (Z2.mul X ((xi N)))).toArray]
    [(0, .pointer (some ⟨bt, 0, none⟩)), (3, .pointer (some ⟨b3, 0, none⟩))] (fun w' => St w w' [⟨b3, 123, m2 P n X⟩, ⟨b4, 123, z0 12⟩] ∧ TB w' bt bm P n N fr) (fun w' => True) 999 none (by kernel_rfl) (by kernel_rfl) rfl rfl
    (.cons (Fact.eq _) rfl (.cons (Fact.eq _) rfl (.cons (Fact.eq _) rfl (.cons (Fact.eq _) rfl (.cons (Fact.eq _) rfl (.cons (Fact.eq _) rfl (.cons (Fact.eq _) rfl (.nil _)))))))) (fun w' h => ⟨hS0.out.next h, hT.out.next (hS0.out.next h).bl⟩) (fun w' h => trivial) (by kernel_rfl) (by exact ⟨rfl, rfl, trivial⟩) (.cons ?_ (.cons ?_ (.cons ?_ (.cons ?_ (.cons ?_ (.cons ?_ (.cons ?_ .nil))))))) ?_
  · refine Obl.plain rfl _ rfl rfl [] (by kernel_rfl) fun a W hF hC hD K hK => ?_
    have e0 : a.tmps.getD 0 undef = .pointer (some ⟨bt, 0, none⟩) := hF.1
    clear hF hD hC
    exact wp_move (.tmp 0) rfl e0 (hK _ _ rfl (Below.refl _ _))
  · refine Obl.plain rfl _ rfl rfl [] (by kernel_rfl) fun a W hF hC hD K hK => ?_
    obtain ⟨c1, c2⟩ := hC
    have e3 : a.tmps.getD 3 undef = .pointer (some ⟨b3, 0, none⟩) := hF.2.1
    clear hF hD
    exact wpLd 123 (.tmp 3) rfl (c1.vb 0 _ rfl) 0 e3 (m2 P n X) (part_all _ (m2_len P n _)) (m2_len P n _) Try.underlying123 rfl Try.szE2 (hK _ _ rfl (Below.refl _ _))
  · refine Obl.plain rfl _ rfl rfl [] (by kernel_rfl) fun a W hF hC hD K hK => ?_
    have e0 : a.tmps.getD 0 undef = .pointer (some ⟨bt, 0, none⟩) := hF.1
    clear hF hD hC
    exact wp_move (.tmp 0) rfl e0 (hK _ _ rfl (Below.refl _ _))
  · refine Obl.plain rfl _ rfl rfl [2] (by kernel_rfl) fun a W hF hC hD K hK => ?_
    have e7 : a.tmps.getD 7 undef = .pointer (some ⟨bt, 0, none⟩) := hD.1
    clear hF hD hC
    exact wp_nil (.tmp 7) rfl e7 (hK _ _ rfl (Below.refl _ _))
  · refine Obl.plain rfl _ rfl rfl [3] (by kernel_rfl) fun a W hF hC hD K hK => ?_
    have e8 : a.tmps.getD 8 undef = .pointer (some ⟨bt, 0, none⟩) := hD.1
    clear hF hD hC
    exact wp_fld (.tmp 8) rfl e8 (Try.fldT1 _ W) (hK _ _ rfl (Below.refl _ _))
  · refine Obl.plain rfl _ rfl rfl [4] (by kernel_rfl) fun a W hF hC hD K hK => ?_
    obtain ⟨c1, c2⟩ := hC
    have e9 : a.tmps.getD 9 undef = .pointer (some ⟨bt, 1, none⟩) := hD.1
    clear hF hD
    exact wpLd 123 (.tmp 9) rfl c2.vb 1 e9 (m2 P n ((xi N))) (tc_x bm P n N fr) (m2_len P n _) Try.underlying123 rfl Try.szE2 (hK _ _ rfl (Below.refl _ _))
  · refine Obl.plain rfl _ rfl rfl [0, 1, 5] (by kernel_rfl) fun a W hF hC hD K hK => ?_
    obtain ⟨c1, c2⟩ := hC
    have e5 : a.tmps.getD 5 undef = .pointer (some ⟨bt, 0, none⟩) := hD.1
    have e6 : a.tmps.getD 6 undef = .agg (m2 P n X).toArray := hD.2.1
    have e10 : a.tmps.getD 10 undef = .agg (m2 P n ((xi N))).toArray := hD.2.2.1
    clear hF hD
    exact wp_callV #[a.tmps.getD 5 undef, a.tmps.getD 6 undef, a.tmps.getD 10 undef] #[.pointer (some ⟨bt, 0, none⟩), .agg (m2 P n X).toArray, .agg (m2 P n ((xi N))).toArray] (.agg (m2 P n (Z2.mul X ((xi N)))).toArray) (by kernel_rfl) (by rw [e5, e6, e10]) (xmul2 X ((xi N)) c2 hI.out) (fun w' hb => hK _ _ rfl hb)
  rintro w1 hB hC _ rfl _ rfl _ rfl _ rfl _ rfl _ rfl _ rfl
  change Below _ _ _ at hB
  change wpList _ _ _ _ _ _
  simp only [List.drop_succ_cons, List.drop_zero, Act.put, List.setIfInBounds_toArray, List.set_cons_zero, List.set_cons_succ]
  have hS1 := hide (hS0.out.next hB)
  clear hB hC hS0
  go_wp2_with ((with_reducible refine storeWS (n := 12) (o := ⟨none, _, _, _, _, _⟩) ?_ 123 (.tmp 4) (.tmp 11) ?_ hS1.out 1 (c := ⟨b4, 123, z0 12⟩) ?_ ?_ (m2 P n (Z2.mul X ((xi N)))) ?_ ?_ ?_ ?_ Try.szE2 ?_); rfl; rfl; rfl; rfl; rfl; rfl; rfl; rfl; intro wz hZ hO)
  exact retS rfl hZ 1 (c := ⟨b4, 123, m2 P n (Z2.mul X ((xi N)))⟩) rfl rfl Try.underlying123 rfl Try.szE2 rfl ⟨rfl, hZ.bl⟩
end Go.Proofs.Ytincemkjdgbnnaa
