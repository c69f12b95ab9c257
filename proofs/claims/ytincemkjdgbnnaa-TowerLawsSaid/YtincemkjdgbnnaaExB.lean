/- Walks: package ext: Add6, Sub6, up6, Mul6, One12, Mul12, Conj12. -/
import Derived.Test.YtincemkjdgbnnaaExA
set_option linter.unusedVariables false
set_option linter.unusedSimpArgs false
namespace Go.Proofs.Ytincemkjdgbnnaa
open Go.RowKit Lm
theorem Try.call133 (args : Array Value) (w : World) : (callFunc 133 args).run Try.prog w = .ok (.enter 133 args) w := by kernel_rfl

set_option maxRecDepth 100000 in
set_option maxHeartbeats 3200000 in
theorem xadd6 {bt bm P n : Nat} {N : Int} {fr : List Value} {w : World} (X Y : Z6) (hT : TB w bt bm P n N fr) (hI : InvOk P) :
    Calls Try.prog 130 #[.pointer (some ⟨bt, 0, none⟩), .agg (m6 P n X).toArray, .agg (m6 P n Y).toArray] w fun e w' => e = .returned (.agg (m6 P n (Z6.add X Y)).toArray) ∧ Below w.heap.size w w' := by
  have hT := hide hT
  have hI := hide hI
  go_enter Try.func130, Try.ntmps130
  have hq0 := hide (St.start w)
  go_upto_region 1 with (first
    | ((with_reducible refine boxS (o := ⟨some 4, _, _, _, _, _⟩) ?_ 125 (.tmp 1) ?_ hq0.out (m6 P n X) ?_ ?_); rfl; rfl; rfl; intro wq1 b4 hS; have hq1 : Hid (St w wq1 [⟨b4, 125, m6 P n X⟩]) := hide hS; clear hS)
    | ((with_reducible refine boxS (o := ⟨some 5, _, _, _, _, _⟩) ?_ 125 (.tmp 2) ?_ hq1.out (m6 P n Y) ?_ ?_); rfl; rfl; rfl; intro wq2 b5 hS; have hq2 : Hid (St w wq2 [⟨b4, 125, m6 P n X⟩, ⟨b5, 125, m6 P n Y⟩]) := hide hS; clear hS)
    | ((with_reducible refine allocS (o := ⟨some 6, _, _, _, _, _⟩) ?_ 125 ?_ hq2.out (z0 36) Try.zrE6 ?_); rfl; rfl; intro wq3 b6 hS; have hq3 : Hid (St w wq3 [⟨b4, 125, m6 P n X⟩, ⟨b5, 125, m6 P n Y⟩, ⟨b6, 125, z0 36⟩]) := hide hS; clear hS))
  have hS0 := hq3
  clear hq0 hq1 hq2 hq3
  go_upto_region 1 with fail
  refine region_do 19 26 [fun v _ => v = .pointer (some ⟨bt, 0, none⟩), fun v _ => v = .pointer (some ⟨b4, 0, none⟩), fun v _ => v = .agg (m2 P n X.a).toArray, fun v _ => v = .pointer (some ⟨b5, 0, none⟩), fun v _ => v = .agg (m2 P n Y.a).toArray, fun v _ => v = .agg (m2 P n (Z2.add X.a Y.a)).toArray, fun v _ => v = .pointer (some ⟨bt, 0, none⟩), fun v _ => v = .pointer (some ⟨b4, 12, none⟩), fun v _ => v = .agg (m2 P n X.b).toArray, fun v _ => v = .pointer (some ⟨b5, 12, none⟩), fun v _ => v = .agg (m2 P n Y.b).toArray, fun v _ => v = .agg (m2 P n (Z2.add X.b Y.b)).toArray, fun v _ => v = .pointer (some ⟨bt, 0, none⟩), fun v _ => v = .pointer (some ⟨b4, 24, none⟩), fun v _ => v = .agg (m2 P n X.c).toArray, fun v _ => v = .pointer (some ⟨b5, 24, none⟩), fun v _ => v = .agg (m2 P n Y.c).toArray, fun v _ => v = .agg (m2 P n (Z2.add X.c Y.c)).toArray, fun v _ => v = .agg (m6 P n (⟨Z2.add X.a Y.a, Z2.add X.b Y.b, Z2.add X.c Y.c⟩)).toArray]
    [(0, .pointer (some ⟨bt, 0, none⟩)), (4, .pointer (some ⟨b4, 0, none⟩)), (5, .pointer (some ⟨b5, 0, none⟩))] (fun w' => St w w' [⟨b4, 125, m6 P n X⟩, ⟨b5, 125, m6 P n Y⟩, ⟨b6, 125, z0 36⟩] ∧ TB w' bt bm P n N fr) (fun w' => True) 999 none (by kernel_rfl) (by kernel_rfl) rfl rfl
    (.cons (Fact.eq _) rfl (.cons (Fact.eq _) rfl (.cons (Fact.eq _) rfl (.cons (Fact.eq _) rfl (.cons (Fact.eq _) rfl (.cons (Fact.eq _) rfl (.cons (Fact.eq _) rfl (.cons (Fact.eq _) rfl (.cons (Fact.eq _) rfl (.cons (Fact.eq _) rfl (.cons (Fact.eq _) rfl (.cons (Fact.eq _) rfl (.cons (Fact.eq _) rfl (.cons (Fact.eq _) rfl (.cons (Fact.eq _) rfl (.cons (Fact.eq _) rfl (.cons (Fact.eq _) rfl (.cons (Fact.eq _) rfl (.cons (Fact.eq _) rfl (.nil _)))))))))))))))))))) (fun w' h => ⟨hS0.out.next h, hT.out.next (hS0.out.next h).bl⟩) (fun w' h => trivial) (by kernel_rfl) (by exact ⟨rfl, rfl, rfl, trivial⟩) (.cons ?_ (.cons ?_ (.cons ?_ (.cons ?_ (.cons ?_ (.cons ?_ (.cons ?_ (.cons ?_ (.cons ?_ (.cons ?_ (.cons ?_ (.cons ?_ (.cons ?_ (.cons ?_ (.cons ?_ (.cons ?_ (.cons ?_ (.cons ?_ (.cons ?_ .nil))))))))))))))))))) ?_
  · refine Obl.plain rfl _ rfl rfl [] (by kernel_rfl) fun a W hF hC hD K hK => ?_
    have e0 : a.tmps.getD 0 undef = .pointer (some ⟨bt, 0, none⟩) := hF.1
    clear hF hD hC
    exact wp_move (.tmp 0) rfl e0 (hK _ _ rfl (Below.refl _ _))
  · refine Obl.plain rfl _ rfl rfl [] (by kernel_rfl) fun a W hF hC hD K hK => ?_
    have e4 : a.tmps.getD 4 undef = .pointer (some ⟨b4, 0, none⟩) := hF.2.1
    clear hF hD hC
    exact wp_idx (.tmp 4) (.const (.int .i64 0)) rfl e4 0 rfl Try.underlying125 Try.szE2 (by decide) (hK _ _ rfl (Below.refl _ _))
  · refine Obl.plain rfl _ rfl rfl [1] (by kernel_rfl) fun a W hF hC hD K hK => ?_
    obtain ⟨c1, c2⟩ := hC
    have e8 : a.tmps.getD 8 undef = .pointer (some ⟨b4, 0, none⟩) := hD.1
    clear hF hD
    exact wpLd 123 (.tmp 8) rfl (c1.vb 0 _ rfl) 0 e8 (m2 P n X.a) (part0 _ _ (m2_len P n _)) (m2_len P n _) Try.underlying123 rfl Try.szE2 (hK _ _ rfl (Below.refl _ _))
  · refine Obl.plain rfl _ rfl rfl [] (by kernel_rfl) fun a W hF hC hD K hK => ?_
    have e5 : a.tmps.getD 5 undef = .pointer (some ⟨b5, 0, none⟩) := hF.2.2.1
    clear hF hD hC
    exact wp_idx (.tmp 5) (.const (.int .i64 0)) rfl e5 0 rfl Try.underlying125 Try.szE2 (by decide) (hK _ _ rfl (Below.refl _ _))
  · refine Obl.plain rfl _ rfl rfl [3] (by kernel_rfl) fun a W hF hC hD K hK => ?_
    obtain ⟨c1, c2⟩ := hC
    have e10 : a.tmps.getD 10 undef = .pointer (some ⟨b5, 0, none⟩) := hD.1
    clear hF hD
    exact wpLd 123 (.tmp 10) rfl (c1.vb 1 _ rfl) 0 e10 (m2 P n Y.a) (part0 _ _ (m2_len P n _)) (m2_len P n _) Try.underlying123 rfl Try.szE2 (hK _ _ rfl (Below.refl _ _))
  · refine Obl.plain rfl _ rfl rfl [0, 2, 4] (by kernel_rfl) fun a W hF hC hD K hK => ?_
    obtain ⟨c1, c2⟩ := hC
    have e7 : a.tmps.getD 7 undef = .pointer (some ⟨bt, 0, none⟩) := hD.1
    have e9 : a.tmps.getD 9 undef = .agg (m2 P n X.a).toArray := hD.2.1
    have e11 : a.tmps.getD 11 undef = .agg (m2 P n Y.a).toArray := hD.2.2.1
    clear hF hD
    exact wp_callV #[a.tmps.getD 7 undef, a.tmps.getD 9 undef, a.tmps.getD 11 undef] #[.pointer (some ⟨bt, 0, none⟩), .agg (m2 P n X.a).toArray, .agg (m2 P n Y.a).toArray] (.agg (m2 P n (Z2.add X.a Y.a)).toArray) (by kernel_rfl) (by rw [e7, e9, e11]) (xadd2 X.a Y.a c2 hI.out) (fun w' hb => hK _ _ rfl hb)
  · refine Obl.plain rfl _ rfl rfl [] (by kernel_rfl) fun a W hF hC hD K hK => ?_
    have e0 : a.tmps.getD 0 undef = .pointer (some ⟨bt, 0, none⟩) := hF.1
    clear hF hD hC
    exact wp_move (.tmp 0) rfl e0 (hK _ _ rfl (Below.refl _ _))
  · refine Obl.plain rfl _ rfl rfl [] (by kernel_rfl) fun a W hF hC hD K hK => ?_
    have e4 : a.tmps.getD 4 undef = .pointer (some ⟨b4, 0, none⟩) := hF.2.1
    clear hF hD hC
    exact wp_idx (.tmp 4) (.const (.int .i64 1)) rfl e4 1 rfl Try.underlying125 Try.szE2 (by decide) (hK _ _ rfl (Below.refl _ _))
  · refine Obl.plain rfl _ rfl rfl [7] (by kernel_rfl) fun a W hF hC hD K hK => ?_
    obtain ⟨c1, c2⟩ := hC
    have e14 : a.tmps.getD 14 undef = .pointer (some ⟨b4, 12, none⟩) := hD.1
    clear hF hD
    exact wpLd 123 (.tmp 14) rfl (c1.vb 0 _ rfl) 12 e14 (m2 P n X.b) (part_mid _ _ _ (m2_len P n _) (m2_len P n _)) (m2_len P n _) Try.underlying123 rfl Try.szE2 (hK _ _ rfl (Below.refl _ _))
  · refine Obl.plain rfl _ rfl rfl [] (by kernel_rfl) fun a W hF hC hD K hK => ?_
    have e5 : a.tmps.getD 5 undef = .pointer (some ⟨b5, 0, none⟩) := hF.2.2.1
    clear hF hD hC
    exact wp_idx (.tmp 5) (.const (.int .i64 1)) rfl e5 1 rfl Try.underlying125 Try.szE2 (by decide) (hK _ _ rfl (Below.refl _ _))
  · refine Obl.plain rfl _ rfl rfl [9] (by kernel_rfl) fun a W hF hC hD K hK => ?_
    obtain ⟨c1, c2⟩ := hC
    have e16 : a.tmps.getD 16 undef = .pointer (some ⟨b5, 12, none⟩) := hD.1
    clear hF hD
    exact wpLd 123 (.tmp 16) rfl (c1.vb 1 _ rfl) 12 e16 (m2 P n Y.b) (part_mid _ _ _ (m2_len P n _) (m2_len P n _)) (m2_len P n _) Try.underlying123 rfl Try.szE2 (hK _ _ rfl (Below.refl _ _))
  · refine Obl.plain rfl _ rfl rfl [6, 8, 10, 5] (by kernel_rfl) fun a W hF hC hD K hK => ?_
    obtain ⟨c1, c2⟩ := hC
    have e13 : a.tmps.getD 13 undef = .pointer (some ⟨bt, 0, none⟩) := hD.1
    have e15 : a.tmps.getD 15 undef = .agg (m2 P n X.b).toArray := hD.2.1
    have e17 : a.tmps.getD 17 undef = .agg (m2 P n Y.b).toArray := hD.2.2.1
    clear hF hD
    exact wp_callV #[a.tmps.getD 13 undef, a.tmps.getD 15 undef, a.tmps.getD 17 undef] #[.pointer (some ⟨bt, 0, none⟩), .agg (m2 P n X.b).toArray, .agg (m2 P n Y.b).toArray] (.agg (m2 P n (Z2.add X.b Y.b)).toArray) (by kernel_rfl) (by rw [e13, e15, e17]) (xadd2 X.b Y.b c2 hI.out) (fun w' hb => hK _ _ rfl hb)
  · refine Obl.plain rfl _ rfl rfl [] (by kernel_rfl) fun a W hF hC hD K hK => ?_
    have e0 : a.tmps.getD 0 undef = .pointer (some ⟨bt, 0, none⟩) := hF.1
    clear hF hD hC
    exact wp_move (.tmp 0) rfl e0 (hK _ _ rfl (Below.refl _ _))
  · refine Obl.plain rfl _ rfl rfl [] (by kernel_rfl) fun a W hF hC hD K hK => ?_
    have e4 : a.tmps.getD 4 undef = .pointer (some ⟨b4, 0, none⟩) := hF.2.1
    clear hF hD hC
    exact wp_idx (.tmp 4) (.const (.int .i64 2)) rfl e4 2 rfl Try.underlying125 Try.szE2 (by decide) (hK _ _ rfl (Below.refl _ _))
  · refine Obl.plain rfl _ rfl rfl [13] (by kernel_rfl) fun a W hF hC hD K hK => ?_
    obtain ⟨c1, c2⟩ := hC
    have e20 : a.tmps.getD 20 undef = .pointer (some ⟨b4, 24, none⟩) := hD.1
    clear hF hD
    exact wpLd 123 (.tmp 20) rfl (c1.vb 0 _ rfl) 24 e20 (m2 P n X.c) (part_end _ _ _ rfl (m2_len P n _)) (m2_len P n _) Try.underlying123 rfl Try.szE2 (hK _ _ rfl (Below.refl _ _))
  · refine Obl.plain rfl _ rfl rfl [] (by kernel_rfl) fun a W hF hC hD K hK => ?_
    have e5 : a.tmps.getD 5 undef = .pointer (some ⟨b5, 0, none⟩) := hF.2.2.1
    clear hF hD hC
    exact wp_idx (.tmp 5) (.const (.int .i64 2)) rfl e5 2 rfl Try.underlying125 Try.szE2 (by decide) (hK _ _ rfl (Below.refl _ _))
  · refine Obl.plain rfl _ rfl rfl [15] (by kernel_rfl) fun a W hF hC hD K hK => ?_
    obtain ⟨c1, c2⟩ := hC
    have e22 : a.tmps.getD 22 undef = .pointer (some ⟨b5, 24, none⟩) := hD.1
    clear hF hD
    exact wpLd 123 (.tmp 22) rfl (c1.vb 1 _ rfl) 24 e22 (m2 P n Y.c) (part_end _ _ _ rfl (m2_len P n _)) (m2_len P n _) Try.underlying123 rfl Try.szE2 (hK _ _ rfl (Below.refl _ _))
  · refine Obl.plain rfl _ rfl rfl [12, 14, 16, 11] (by kernel_rfl) fun a W hF hC hD K hK => ?_
    obtain ⟨c1, c2⟩ := hC
    have e19 : a.tmps.getD 19 undef = .pointer (some ⟨bt, 0, none⟩) := hD.1
    have e21 : a.tmps.getD 21 undef = .agg (m2 P n X.c).toArray := hD.2.1
    have e23 : a.tmps.getD 23 undef = .agg (m2 P n Y.c).toArray := hD.2.2.1
    clear hF hD
    exact wp_callV #[a.tmps.getD 19 undef, a.tmps.getD 21 undef, a.tmps.getD 23 undef] #[.pointer (some ⟨bt, 0, none⟩), .agg (m2 P n X.c).toArray, .agg (m2 P n Y.c).toArray] (.agg (m2 P n (Z2.add X.c Y.c)).toArray) (by kernel_rfl) (by rw [e19, e21, e23]) (xadd2 X.c Y.c c2 hI.out) (fun w' hb => hK _ _ rfl hb)
  · refine Obl.plain rfl _ rfl rfl [5, 11, 17] (by kernel_rfl) fun a W hF hC hD K hK => ?_
    have e12 : a.tmps.getD 12 undef = .agg (m2 P n (Z2.add X.a Y.a)).toArray := hD.1
    have e18 : a.tmps.getD 18 undef = .agg (m2 P n (Z2.add X.b Y.b)).toArray := hD.2.1
    have e24 : a.tmps.getD 24 undef = .agg (m2 P n (Z2.add X.c Y.c)).toArray := hD.2.2.1
    clear hF hD hC
    exact wp_bld3 (.tmp 12) (.tmp 18) (.tmp 24) rfl e12 e18 e24 Try.underlying125 Try.szE2 Try.zrE6 (m2_len P n _) (m2_len P n _) (m2_len P n _) rfl (hK _ _ rfl (Below.refl _ _))
  rintro w1 hB hC _ rfl _ rfl _ rfl _ rfl _ rfl _ rfl _ rfl _ rfl _ rfl _ rfl _ rfl _ rfl _ rfl _ rfl _ rfl _ rfl _ rfl _ rfl _ rfl
  change Below _ _ _ at hB
  change wpList _ _ _ _ _ _
  simp only [List.drop_succ_cons, List.drop_zero, Act.put, List.setIfInBounds_toArray, List.set_cons_zero, List.set_cons_succ]
  have hS1 := hide (hS0.out.next hB)
  clear hB hC hS0
  go_wp2_with ((with_reducible refine storeWS (n := 36) (o := ⟨none, _, _, _, _, _⟩) ?_ 125 (.tmp 6) (.tmp 25) ?_ hS1.out 2 (c := ⟨b6, 125, z0 36⟩) ?_ ?_ (m6 P n (⟨Z2.add X.a Y.a, Z2.add X.b Y.b, Z2.add X.c Y.c⟩)) ?_ ?_ ?_ ?_ Try.szE6 ?_); rfl; rfl; rfl; rfl; rfl; rfl; rfl; rfl; intro wz hZ hO)
  exact retS rfl hZ 2 (c := ⟨b6, 125, m6 P n (⟨Z2.add X.a Y.a, Z2.add X.b Y.b, Z2.add X.c Y.c⟩)⟩) rfl rfl Try.underlying125 rfl Try.szE6 rfl ⟨rfl, hZ.bl⟩

set_option maxRecDepth 100000 in
set_option maxHeartbeats 3200000 in
theorem xsub6 {bt bm P n : Nat} {N : Int} {fr : List Value} {w : World} (X Y : Z6) (hT : TB w bt bm P n N fr) (hI : InvOk P) :
    Calls Try.prog 132 #[.pointer (some ⟨bt, 0, none⟩), .agg (m6 P n X).toArray, .agg (m6 P n Y).toArray] w fun e w' => e = .returned (.agg (m6 P n (Z6.sub X Y)).toArray) ∧ Below w.heap.size w w' := by
  have hT := hide hT
  have hI := hide hI
  go_enter Try.func132, Try.ntmps132
  have hq0 := hide (St.start w)
  go_upto_region 1 with (first
    | ((with_reducible refine boxS (o := ⟨some 4, _, _, _, _, _⟩) ?_ 125 (.tmp 1) ?_ hq0.out (m6 P n X) ?_ ?_); rfl; rfl; rfl; intro wq1 b4 hS; have hq1 : Hid (St w wq1 [⟨b4, 125, m6 P n X⟩]) := hide hS; clear hS)
    | ((with_reducible refine boxS (o := ⟨some 5, _, _, _, _, _⟩) ?_ 125 (.tmp 2) ?_ hq1.out (m6 P n Y) ?_ ?_); rfl; rfl; rfl; intro wq2 b5 hS; have hq2 : Hid (St w wq2 [⟨b4, 125, m6 P n X⟩, ⟨b5, 125, m6 P n Y⟩]) := hide hS; clear hS)
    | ((with_reducible refine allocS (o := ⟨some 6, _, _, _, _, _⟩) ?_ 125 ?_ hq2.out (z0 36) Try.zrE6 ?_); rfl; rfl; intro wq3 b6 hS; have hq3 : Hid (St w wq3 [⟨b4, 125, m6 P n X⟩, ⟨b5, 125, m6 P n Y⟩, ⟨b6, 125, z0 36⟩]) := hide hS; clear hS))
  have hS0 := hq3
  clear hq0 hq1 hq2 hq3
  go_upto_region 1 with fail
  refine region_do 19 26 [fun v _ => v = .pointer (some ⟨bt, 0, none⟩), fun v _ => v = .pointer (some ⟨b4, 0, none⟩), fun v _ => v = .agg (m2 P n X.a).toArray, fun v _ => v = .pointer (some ⟨b5, 0, none⟩), fun v _ => v = .agg (m2 P n Y.a).toArray, fun v _ => v = .agg (m2 P n (Z2.sub X.a Y.a)).toArray, fun v _ => v = .pointer (some ⟨bt, 0, none⟩), fun v _ => v = .pointer (some ⟨b4, 12, none⟩), fun v _ => v = .agg (m2 P n X.b).toArray, fun v _ => v = .pointer (some ⟨b5, 12, none⟩), fun v _ => v = .agg (m2 P n Y.b).toArray, fun v _ => v = .agg (m2 P n (Z2.sub X.b Y.b)).toArray, fun v _ => v = .pointer (some ⟨bt, 0, none⟩), fun v _ => v = .pointer (some ⟨b4, 24, none⟩), fun v _ => v = .agg (m2 P n X.c).toArray, fun v _ => v = .pointer (some ⟨b5, 24, none⟩), fun v _ => v = .agg (m2 P n Y.c).toArray, fun v _ => v = .agg (m2 P n (Z2.sub X.c Y.c)).toArray, fun v _ => v = .agg (m6 P n (⟨Z2.sub X.a Y.a, Z2.sub X.b Y.b, Z2.sub X.c Y.c⟩)).toArray]
    [(0, .pointer (some ⟨bt, 0, none⟩)), (4, .pointer (some ⟨b4, 0, none⟩)), (5, .pointer (some ⟨b5, 0, none⟩))] (fun w' => St w w' [⟨b4, 125, m6 P n X⟩, ⟨b5, 125, m6 P n Y⟩, ⟨b6, 125, z0 36⟩] ∧ TB w' bt bm P n N fr) (fun w' => True) 999 none (by kernel_rfl) (by kernel_rfl) rfl rfl
    (.cons (Fact.eq _) rfl (.cons (Fact.eq _) rfl (.cons (Fact.eq _) rfl (.cons (Fact.eq _) rfl (.cons (Fact.eq _) rfl (.cons (Fact.eq _) rfl (.cons (Fact.eq _) rfl (.cons (Fact.eq _) rfl (.cons (Fact.eq _) rfl (.cons (Fact.eq _) rfl (.cons (Fact.eq _) rfl (.cons (Fact.eq _) rfl (.cons (Fact.eq _) rfl (.cons (Fact.eq _) rfl (.cons (Fact.eq _) rfl (.cons (Fact.eq _) rfl (.cons (Fact.eq _) rfl (.cons (Fact.eq _) rfl (.cons (Fact.eq _) rfl (.nil _)))))))))))))))))))) (fun w' h => ⟨hS0.out.next h, hT.out.next (hS0.out.next h).bl⟩) (fun w' h => trivial) (by kernel_rfl) (by exact ⟨rfl, rfl, rfl, trivial⟩) (.cons ?_ (.cons ?_ (.cons ?_ (.cons ?_ (.cons ?_ (.cons ?_ (.cons ?_ (.cons ?_ (.cons ?_ (.cons ?_ (.cons ?_ (.cons ?_ (.cons ?_ (.cons ?_ (.cons ?_ (.cons ?_ (.cons ?_ (.cons ?_ (.cons ?_ .nil))))))))))))))))))) ?_
  · refine Obl.plain rfl _ rfl rfl [] (by kernel_rfl) fun a W hF hC hD K hK => ?_
    have e0 : a.tmps.getD 0 undef = .pointer (some ⟨bt, 0, none⟩) := hF.1
    clear hF hD hC
    exact wp_move (.tmp 0) rfl e0 (hK _ _ rfl (Below.refl _ _))
  · refine Obl.plain rfl _ rfl rfl [] (by kernel_rfl) fun a W hF hC hD K hK => ?_
    have e4 : a.tmps.getD 4 undef = .pointer (some ⟨b4, 0, none⟩) := hF.2.1
    clear hF hD hC
    exact wp_idx (.tmp 4) (.const (.int .i64 0)) rfl e4 0 rfl Try.underlying125 Try.szE2 (by decide) (hK _ _ rfl (Below.refl _ _))
  · refine Obl.plain rfl _ rfl rfl [1] (by kernel_rfl) fun a W hF hC hD K hK => ?_
    obtain ⟨c1, c2⟩ := hC
    have e8 : a.tmps.getD 8 undef = .pointer (some ⟨b4, 0, none⟩) := hD.1
    clear hF hD
    exact wpLd 123 (.tmp 8) rfl (c1.vb 0 _ rfl) 0 e8 (m2 P n X.a) (part0 _ _ (m2_len P n _)) (m2_len P n _) Try.underlying123 rfl Try.szE2 (hK _ _ rfl (Below.refl _ _))
  · refine Obl.plain rfl _ rfl rfl [] (by kernel_rfl) fun a W hF hC hD K hK => ?_
    have e5 : a.tmps.getD 5 undef = .pointer (some ⟨b5, 0, none⟩) := hF.2.2.1
    clear hF hD hC
    exact wp_idx (.tmp 5) (.const (.int .i64 0)) rfl e5 0 rfl Try.underlying125 Try.szE2 (by decide) (hK _ _ rfl (Below.refl _ _))
  · refine Obl.plain rfl _ rfl rfl [3] (by kernel_rfl) fun a W hF hC hD K hK => ?_
    obtain ⟨c1, c2⟩ := hC
    have e10 : a.tmps.getD 10 undef = .pointer (some ⟨b5, 0, none⟩) := hD.1
    clear hF hD
    exact wpLd 123 (.tmp 10) rfl (c1.vb 1 _ rfl) 0 e10 (m2 P n Y.a) (part0 _ _ (m2_len P n _)) (m2_len P n _) Try.underlying123 rfl Try.szE2 (hK _ _ rfl (Below.refl _ _))
  · refine Obl.plain rfl _ rfl rfl [0, 2, 4] (by kernel_rfl) fun a W hF hC hD K hK => ?_
    obtain ⟨c1, c2⟩ := hC
    have e7 : a.tmps.getD 7 undef = .pointer (some ⟨bt, 0, none⟩) := hD.1
    have e9 : a.tmps.getD 9 undef = .agg (m2 P n X.a).toArray := hD.2.1
    have e11 : a.tmps.getD 11 undef = .agg (m2 P n Y.a).toArray := hD.2.2.1
    clear hF hD
    exact wp_callV #[a.tmps.getD 7 undef, a.tmps.getD 9 undef, a.tmps.getD 11 undef] #[.pointer (some ⟨bt, 0, none⟩), .agg (m2 P n X.a).toArray, .agg (m2 P n Y.a).toArray] (.agg (m2 P n (Z2.sub X.a Y.a)).toArray) (by kernel_rfl) (by rw [e7, e9, e11]) (xsub2 X.a Y.a c2 hI.out) (fun w' hb => hK _ _ rfl hb)
  · refine Obl.plain rfl _ rfl rfl [] (by kernel_rfl) fun a W hF hC hD K hK => ?_
    have e0 : a.tmps.getD 0 undef = .pointer (some ⟨bt, 0, none⟩) := hF.1
    clear hF hD hC
    exact wp_move (.tmp 0) rfl e0 (hK _ _ rfl (Below.refl _ _))
  · refine Obl.plain rfl _ rfl rfl [] (by kernel_rfl) fun a W hF hC hD K hK => ?_
    have e4 : a.tmps.getD 4 undef = .pointer (some ⟨b4, 0, none⟩) := hF.2.1
    clear hF hD hC
    exact wp_idx (.tmp 4) (.const (.int .i64 1)) rfl e4 1 rfl Try.underlying125 Try.szE2 (by decide) (hK _ _ rfl (Below.refl _ _))
  · refine Obl.plain rfl _ rfl rfl [7] (by kernel_rfl) fun a W hF hC hD K hK => ?_
    obtain ⟨c1, c2⟩ := hC
    have e14 : a.tmps.getD 14 undef = .pointer (some ⟨b4, 12, none⟩) := hD.1
    clear hF hD
    exact wpLd 123 (.tmp 14) rfl (c1.vb 0 _ rfl) 12 e14 (m2 P n X.b) (part_mid _ _ _ (m2_len P n _) (m2_len P n _)) (m2_len P n _) Try.underlying123 rfl Try.szE2 (hK _ _ rfl (Below.refl _ _))
  · refine Obl.plain rfl _ rfl rfl [] (by kernel_rfl) fun a W hF hC hD K hK => ?_
    have e5 : a.tmps.getD 5 undef = .pointer (some ⟨b5, 0, none⟩) := hF.2.2.1
    clear hF hD hC
    exact wp_idx (.tmp 5) (.const (.int .i64 1)) rfl e5 1 rfl Try.underlying125 Try.szE2 (by decide) (hK _ _ rfl (Below.refl _ _))
  · refine Obl.plain rfl _ rfl rfl [9] (by kernel_rfl) fun a W hF hC hD K hK => ?_
    obtain ⟨c1, c2⟩ := hC
    have e16 : a.tmps.getD 16 undef = .pointer (some ⟨b5, 12, none⟩) := hD.1
    clear hF hD
    exact wpLd 123 (.tmp 16) rfl (c1.vb 1 _ rfl) 12 e16 (m2 P n Y.b) (part_mid _ _ _ (m2_len P n _) (m2_len P n _)) (m2_len P n _) Try.underlying123 rfl Try.szE2 (hK _ _ rfl (Below.refl _ _))
  · refine Obl.plain rfl _ rfl rfl [6, 8, 10, 5] (by kernel_rfl) fun a W hF hC hD K hK => ?_
    obtain ⟨c1, c2⟩ := hC
    have e13 : a.tmps.getD 13 undef = .pointer (some ⟨bt, 0, none⟩) := hD.1
    have e15 : a.tmps.getD 15 undef = .agg (m2 P n X.b).toArray := hD.2.1
    have e17 : a.tmps.getD 17 undef = .agg (m2 P n Y.b).toArray := hD.2.2.1
    clear hF hD
    exact wp_callV #[a.tmps.getD 13 undef, a.tmps.getD 15 undef, a.tmps.getD 17 undef] #[.pointer (some ⟨bt, 0, none⟩), .agg (m2 P n X.b).toArray, .agg (m2 P n Y.b).toArray] (.agg (m2 P n (Z2.sub X.b Y.b)).toArray) (by kernel_rfl) (by rw [e13, e15, e17]) (xsub2 X.b Y.b c2 hI.out) (fun w' hb => hK _ _ rfl hb)
  · refine Obl.plain rfl _ rfl rfl [] (by kernel_rfl) fun a W hF hC hD K hK => ?_
    have e0 : a.tmps.getD 0 undef = .pointer (some ⟨bt, 0, none⟩) := hF.1
    clear hF hD hC
    exact wp_move (.tmp 0) rfl e0 (hK _ _ rfl (Below.refl _ _))
  · refine Obl.plain rfl _ rfl rfl [] (by kernel_rfl) fun a W hF hC hD K hK => ?_
    have e4 : a.tmps.getD 4 undef = .pointer (some ⟨b4, 0, none⟩) := hF.2.1
    clear hF hD hC
    exact wp_idx (.tmp 4) (.const (.int .i64 2)) rfl e4 2 rfl Try.underlying125 Try.szE2 (by decide) (hK _ _ rfl (Below.refl _ _))
  · refine Obl.plain rfl _ rfl rfl [13] (by kernel_rfl) fun a W hF hC hD K hK => ?_
    obtain ⟨c1, c2⟩ := hC
    have e20 : a.tmps.getD 20 undef = .pointer (some ⟨b4, 24, none⟩) := hD.1
    clear hF hD
    exact wpLd 123 (.tmp 20) rfl (c1.vb 0 _ rfl) 24 e20 (m2 P n X.c) (part_end _ _ _ rfl (m2_len P n _)) (m2_len P n _) Try.underlying123 rfl Try.szE2 (hK _ _ rfl (Below.refl _ _))
  · refine Obl.plain rfl _ rfl rfl [] (by kernel_rfl) fun a W hF hC hD K hK => ?_
    have e5 : a.tmps.getD 5 undef = .pointer (some ⟨b5, 0, none⟩) := hF.2.2.1
    clear hF hD hC
    exact wp_idx (.tmp 5) (.const (.int .i64 2)) rfl e5 2 rfl Try.underlying125 Try.szE2 (by decide) (hK _ _ rfl (Below.refl _ _))
  · refine Obl.plain rfl _ rfl rfl [15] (by kernel_rfl) fun a W hF hC hD K hK => ?_
    obtain ⟨c1, c2⟩ := hC
    have e22 : a.tmps.getD 22 undef = .pointer (some ⟨b5, 24, none⟩) := hD.1
    clear hF hD
    exact wpLd 123 (.tmp 22) rfl (c1.vb 1 _ rfl) 24 e22 (m2 P n Y.c) (part_end _ _ _ rfl (m2_len P n _)) (m2_len P n _) Try.underlying123 rfl Try.szE2 (hK _ _ rfl (Below.refl _ _))
  · refine Obl.plain rfl _ rfl rfl [12, 14, 16, 11] (by kernel_rfl) fun a W hF hC hD K hK => ?_
    obtain ⟨c1, c2⟩ := hC
    have e19 : a.tmps.getD 19 undef = .pointer (some ⟨bt, 0, none⟩) := hD.1
    have e21 : a.tmps.getD 21 undef = .agg (m2 P n X.c).toArray := hD.2.1
    have e23 : a.tmps.getD 23 undef = .agg (m2 P n Y.c).toArray := hD.2.2.1
    clear hF hD
    exact wp_callV #[a.tmps.getD 19 undef, a.tmps.getD 21 undef, a.tmps.getD 23 undef] #[.pointer (some ⟨bt, 0, none⟩), .agg (m2 P n X.c).toArray, .agg (m2 P n Y.c).toArray] (.agg (m2 P n (Z2.sub X.c Y.c)).toArray) (by kernel_rfl) (by rw [e19, e21, e23]) (xsub2 X.c Y.c c2 hI.out) (fun w' hb => hK _ _ rfl hb)
  · refine Obl.plain rfl _ rfl rfl [5, 11, 17] (by kernel_rfl) fun a W hF hC hD K hK => ?_
    have e12 : a.tmps.getD 12 undef = .agg (m2 P n (Z2.sub X.a Y.a)).toArray := hD.1
    have e18 : a.tmps.getD 18 undef = .agg (m2 P n (Z2.sub X.b Y.b)).toArray := hD.2.1
    have e24 : a.tmps.getD 24 undef = .agg (m2 P n (Z2.sub X.c Y.c)).toArray := hD.2.2.1
    clear hF hD hC
    exact wp_bld3 (.tmp 12) (.tmp 18) (.tmp 24) rfl e12 e18 e24 Try.underlying125 Try.szE2 Try.zrE6 (m2_len P n _) (m2_len P n _) (m2_len P n _) rfl (hK _ _ rfl (Below.refl _ _))
  rintro w1 hB hC _ rfl _ rfl _ rfl _ rfl _ rfl _ rfl _ rfl _ rfl _ rfl _ rfl _ rfl _ rfl _ rfl _ rfl _ rfl _ rfl _ rfl _ rfl _ rfl
  change Below _ _ _ at hB
  change wpList _ _ _ _ _ _
  simp only [List.drop_succ_cons, List.drop_zero, Act.put, List.setIfInBounds_toArray, List.set_cons_zero, List.set_cons_succ]
  have hS1 := hide (hS0.out.next hB)
  clear hB hC hS0
  go_wp2_with ((with_reducible refine storeWS (n := 36) (o := ⟨none, _, _, _, _, _⟩) ?_ 125 (.tmp 6) (.tmp 25) ?_ hS1.out 2 (c := ⟨b6, 125, z0 36⟩) ?_ ?_ (m6 P n (⟨Z2.sub X.a Y.a, Z2.sub X.b Y.b, Z2.sub X.c Y.c⟩)) ?_ ?_ ?_ ?_ Try.szE6 ?_); rfl; rfl; rfl; rfl; rfl; rfl; rfl; rfl; intro wz hZ hO)
  exact retS rfl hZ 2 (c := ⟨b6, 125, m6 P n (⟨Z2.sub X.a Y.a, Z2.sub X.b Y.b, Z2.sub X.c Y.c⟩)⟩) rfl rfl Try.underlying125 rfl Try.szE6 rfl ⟨rfl, hZ.bl⟩

set_option maxRecDepth 100000 in
set_option maxHeartbeats 3200000 in
theorem xup6 {bt bm P n : Nat} {N : Int} {fr : List Value} {w : World} (X : Z6) (hT : TB w bt bm P n N fr) (hI : InvOk P) :
    Calls Try.prog 131 #[.pointer (some ⟨bt, 0, none⟩), .agg (m6 P n X).toArray] w fun e w' => e = .returned (.agg (m6 P n (Z6.up N X)).toArray) ∧ Below w.heap.size w w' := by
  have hT := hide hT
  have hI := hide hI
  go_enter Try.func131, Try.ntmps131
  have hq0 := hide (St.start w)
  go_upto_region 1 with (first
    | ((with_reducible refine boxS (o := ⟨some 3, _, _, _, _, _⟩) ?_ 125 (.tmp 1) ?_ hq0.out (m6 P n X) ?_ ?_); rfl; rfl; rfl; intro wq1 b3 hS; have hq1 : Hid (St w wq1 [⟨b3, 125, m6 P n X⟩]) := hide hS; clear hS)
    | ((with_reducible refine allocS (o := ⟨some 4, _, _, _, _, _⟩) ?_ 125 ?_ hq1.out (z0 36) Try.zrE6 ?_); rfl; rfl; intro wq2 b4 hS; have hq2 : Hid (St w wq2 [⟨b3, 125, m6 P n X⟩, ⟨b4, 125, z0 36⟩]) := hide hS; clear hS))
  have hS0 := hq2
  clear hq0 hq1 hq2
  go_upto_region 1 with fail
  refine region_do 9 14 [fun v _ => v = .pointer (some ⟨bt, 0, none⟩), fun v _ => v = .pointer (some ⟨b3, 24, none⟩), fun v _ => v = .agg (m2 P n X.c).toArray, fun v _ => v = .agg (m2 P n (Z2.up N X.c)).toArray, fun v _ => v = .pointer (some ⟨b3, 0, none⟩), fun v _ => v = .agg (m2 P n X.a).toArray, fun v _ => v = .pointer (some ⟨b3, 12, none⟩), fun v _ => v = .agg (m2 P n X.b).toArray, fun v _ => v = .agg (m6 P n (⟨Z2.up N X.c, X.a, X.b⟩)).toArray]
    [(0, .pointer (some ⟨bt, 0, none⟩)), (3, .pointer (some ⟨b3, 0, none⟩))] (fun w' => St w w' [⟨b3, 125, m6 P n X⟩, ⟨b4, 125, z0 36⟩] ∧ TB w' bt bm P n N fr) (fun w' => True) 999 none (by kernel_rfl) (by kernel_rfl) rfl rfl
    (.cons (Fact.eq _) rfl (.cons (Fact.eq _) rfl (.cons (Fact.eq _) rfl (.cons (Fact.eq _) rfl (.cons (Fact.eq _) rfl (.cons (Fact.eq _) rfl (.cons (Fact.eq _) rfl (.cons (Fact.eq _) rfl (.cons (Fact.eq _) rfl (.nil _)))))))))) (fun w' h => ⟨hS0.out.next h, hT.out.next (hS0.out.next h).bl⟩) (fun w' h => trivial) (by kernel_rfl) (by exact ⟨rfl, rfl, trivial⟩) (.cons ?_ (.cons ?_ (.cons ?_ (.cons ?_ (.cons ?_ (.cons ?_ (.cons ?_ (.cons ?_ (.cons ?_ .nil))))))))) ?_
  · refine Obl.plain rfl _ rfl rfl [] (by kernel_rfl) fun a W hF hC hD K hK => ?_
    have e0 : a.tmps.getD 0 undef = .pointer (some ⟨bt, 0, none⟩) := hF.1
    clear hF hD hC
    exact wp_move (.tmp 0) rfl e0 (hK _ _ rfl (Below.refl _ _))
  · refine Obl.plain rfl _ rfl rfl [] (by kernel_rfl) fun a W hF hC hD K hK => ?_
    have e3 : a.tmps.getD 3 undef = .pointer (some ⟨b3, 0, none⟩) := hF.2.1
    clear hF hD hC
    exact wp_idx (.tmp 3) (.const (.int .i64 2)) rfl e3 2 rfl Try.underlying125 Try.szE2 (by decide) (hK _ _ rfl (Below.refl _ _))
  · refine Obl.plain rfl _ rfl rfl [1] (by kernel_rfl) fun a W hF hC hD K hK => ?_
    obtain ⟨c1, c2⟩ := hC
    have e6 : a.tmps.getD 6 undef = .pointer (some ⟨b3, 24, none⟩) := hD.1
    clear hF hD
    exact wpLd 123 (.tmp 6) rfl (c1.vb 0 _ rfl) 24 e6 (m2 P n X.c) (part_end _ _ _ rfl (m2_len P n _)) (m2_len P n _) Try.underlying123 rfl Try.szE2 (hK _ _ rfl (Below.refl _ _))
  · refine Obl.plain rfl _ rfl rfl [0, 2] (by kernel_rfl) fun a W hF hC hD K hK => ?_
    obtain ⟨c1, c2⟩ := hC
    have e5 : a.tmps.getD 5 undef = .pointer (some ⟨bt, 0, none⟩) := hD.1
    have e7 : a.tmps.getD 7 undef = .agg (m2 P n X.c).toArray := hD.2.1
    clear hF hD
    exact wp_callV #[a.tmps.getD 5 undef, a.tmps.getD 7 undef] #[.pointer (some ⟨bt, 0, none⟩), .agg (m2 P n X.c).toArray] (.agg (m2 P n (Z2.up N X.c)).toArray) (by kernel_rfl) (by rw [e5, e7]) (xup2 X.c c2 hI.out) (fun w' hb => hK _ _ rfl hb)
  · refine Obl.plain rfl _ rfl rfl [] (by kernel_rfl) fun a W hF hC hD K hK => ?_
    have e3 : a.tmps.getD 3 undef = .pointer (some ⟨b3, 0, none⟩) := hF.2.1
    clear hF hD hC
    exact wp_idx (.tmp 3) (.const (.int .i64 0)) rfl e3 0 rfl Try.underlying125 Try.szE2 (by decide) (hK _ _ rfl (Below.refl _ _))
  · refine Obl.plain rfl _ rfl rfl [4] (by kernel_rfl) fun a W hF hC hD K hK => ?_
    obtain ⟨c1, c2⟩ := hC
    have e9 : a.tmps.getD 9 undef = .pointer (some ⟨b3, 0, none⟩) := hD.1
    clear hF hD
    exact wpLd 123 (.tmp 9) rfl (c1.vb 0 _ rfl) 0 e9 (m2 P n X.a) (part0 _ _ (m2_len P n _)) (m2_len P n _) Try.underlying123 rfl Try.szE2 (hK _ _ rfl (Below.refl _ _))
  · refine Obl.plain rfl _ rfl rfl [] (by kernel_rfl) fun a W hF hC hD K hK => ?_
    have e3 : a.tmps.getD 3 undef = .pointer (some ⟨b3, 0, none⟩) := hF.2.1
    clear hF hD hC
    exact wp_idx (.tmp 3) (.const (.int .i64 1)) rfl e3 1 rfl Try.underlying125 Try.szE2 (by decide) (hK _ _ rfl (Below.refl _ _))
  · refine Obl.plain rfl _ rfl rfl [6] (by kernel_rfl) fun a W hF hC hD K hK => ?_
    obtain ⟨c1, c2⟩ := hC
    have e11 : a.tmps.getD 11 undef = .pointer (some ⟨b3, 12, none⟩) := hD.1
    clear hF hD
    exact wpLd 123 (.tmp 11) rfl (c1.vb 0 _ rfl) 12 e11 (m2 P n X.b) (part_mid _ _ _ (m2_len P n _) (m2_len P n _)) (m2_len P n _) Try.underlying123 rfl Try.szE2 (hK _ _ rfl (Below.refl _ _))
  · refine Obl.plain rfl _ rfl rfl [3, 5, 7] (by kernel_rfl) fun a W hF hC hD K hK => ?_
    have e8 : a.tmps.getD 8 undef = .agg (m2 P n (Z2.up N X.c)).toArray := hD.1
    have e10 : a.tmps.getD 10 undef = .agg (m2 P n X.a).toArray := hD.2.1
    have e12 : a.tmps.getD 12 undef = .agg (m2 P n X.b).toArray := hD.2.2.1
    clear hF hD hC
    exact wp_bld3 (.tmp 8) (.tmp 10) (.tmp 12) rfl e8 e10 e12 Try.underlying125 Try.szE2 Try.zrE6 (m2_len P n _) (m2_len P n _) (m2_len P n _) rfl (hK _ _ rfl (Below.refl _ _))
  rintro w1 hB hC _ rfl _ rfl _ rfl _ rfl _ rfl _ rfl _ rfl _ rfl _ rfl
  change Below _ _ _ at hB
  change wpList _ _ _ _ _ _
  simp only [List.drop_succ_cons, List.drop_zero, Act.put, List.setIfInBounds_toArray, List.set_cons_zero, List.set_cons_succ]
  have hS1 := hide (hS0.out.next hB)
  clear hB hC hS0
  go_wp2_with ((with_reducible refine storeWS (n := 36) (o := ⟨none, _, _, _, _, _⟩) ?_ 125 (.tmp 4) (.tmp 13) ?_ hS1.out 1 (c := ⟨b4, 125, z0 36⟩) ?_ ?_ (m6 P n (⟨Z2.up N X.c, X.a, X.b⟩)) ?_ ?_ ?_ ?_ Try.szE6 ?_); rfl; rfl; rfl; rfl; rfl; rfl; rfl; rfl; intro wz hZ hO)
  exact retS rfl hZ 1 (c := ⟨b4, 125, m6 P n (⟨Z2.up N X.c, X.a, X.b⟩)⟩) rfl rfl Try.underlying125 rfl Try.szE6 rfl ⟨rfl, hZ.bl⟩

set_option maxRecDepth 100000 in
set_option maxHeartbeats 3200000 in
theorem xcr12 {bt bm P n b4 b5 b6 : Nat} {N : Int} {fr : List Value} {w : World} (X Y : Z6) (p q : Z2) (hT : TB w bt bm P n N fr) (hI : InvOk P) (h4 : VB w b4 128 [.pointer (some ⟨bt, 0, none⟩)]) (h5 : VB w b5 125 (m6 P n X)) (h6 : VB w b6 125 (m6 P n Y)) :
    Calls Try.prog 133 #[.int .i64 1, .int .i64 2, .agg (m2 P n p).toArray, .agg (m2 P n q).toArray, .pointer (some ⟨b4, 0, none⟩), .pointer (some ⟨b5, 0, none⟩), .pointer (some ⟨b6, 0, none⟩)] w fun e w' => e = .returned (.agg (m2 P n (Z6.crs X.b X.c Y.b Y.c p q)).toArray) ∧ Below w.heap.size w w' := by
  have hT := hide hT
  have hI := hide hI
  have h4 := hide h4
  have h5 := hide h5
  have h6 := hide h6
  go_enter Try.func133, Try.ntmps133
  have hq0 := hide (St.start w)
  go_upto_region 1 with (first
    | ((with_reducible refine boxS (o := ⟨some 9, _, _, _, _, _⟩) ?_ 123 (.tmp 2) ?_ hq0.out (m2 P n p) ?_ ?_); rfl; rfl; rfl; intro wq1 b9 hS; have hq1 : Hid (St w wq1 [⟨b9, 123, m2 P n p⟩]) := hide hS; clear hS)
    | ((with_reducible refine boxS (o := ⟨some 10, _, _, _, _, _⟩) ?_ 123 (.tmp 3) ?_ hq1.out (m2 P n q) ?_ ?_); rfl; rfl; rfl; intro wq2 b10 hS; have hq2 : Hid (St w wq2 [⟨b9, 123, m2 P n p⟩, ⟨b10, 123, m2 P n q⟩]) := hide hS; clear hS)
    | ((with_reducible refine allocS (o := ⟨some 11, _, _, _, _, _⟩) ?_ 123 ?_ hq2.out (z0 12) Try.zrE2 ?_); rfl; rfl; intro wq3 b11 hS; have hq3 : Hid (St w wq3 [⟨b9, 123, m2 P n p⟩, ⟨b10, 123, m2 P n q⟩, ⟨b11, 123, z0 12⟩]) := hide hS; clear hS))
  have hS0 := hq3
  clear hq0 hq1 hq2 hq3
  go_upto_region 1 with fail
  refine region_do 24 36 [fun v _ => v = .pointer (some ⟨bt, 0, none⟩), fun v _ => v = .pointer (some ⟨bt, 0, none⟩), fun v _ => v = .pointer (some ⟨bt, 0, none⟩), fun v _ => v = .pointer (some ⟨bt, 0, none⟩), fun v _ => v = .int .i64 1, fun v _ => v = .pointer (some ⟨b5, 12, none⟩), fun v _ => v = .agg (m2 P n X.b).toArray, fun v _ => v = .int .i64 2, fun v _ => v = .pointer (some ⟨b5, 24, none⟩), fun v _ => v = .agg (m2 P n X.c).toArray, fun v _ => v = .agg (m2 P n (Z2.add X.b X.c)).toArray, fun v _ => v = .pointer (some ⟨bt, 0, none⟩), fun v _ => v = .int .i64 1, fun v _ => v = .pointer (some ⟨b6, 12, none⟩), fun v _ => v = .agg (m2 P n Y.b).toArray, fun v _ => v = .int .i64 2, fun v _ => v = .pointer (some ⟨b6, 24, none⟩), fun v _ => v = .agg (m2 P n Y.c).toArray, fun v _ => v = .agg (m2 P n (Z2.add Y.b Y.c)).toArray, fun v _ => v = .agg (m2 P n (Z2.mul (Z2.add X.b X.c) (Z2.add Y.b Y.c))).toArray, fun v _ => v = .agg (m2 P n p).toArray, fun v _ => v = .agg (m2 P n (Z2.sub (Z2.mul (Z2.add X.b X.c) (Z2.add Y.b Y.c)) p)).toArray, fun v _ => v = .agg (m2 P n q).toArray, fun v _ => v = .agg (m2 P n (Z2.sub (Z2.sub (Z2.mul (Z2.add X.b X.c) (Z2.add Y.b Y.c)) p) q)).toArray]
    [(4, .pointer (some ⟨b4, 0, none⟩)), (0, .int .i64 1), (5, .pointer (some ⟨b5, 0, none⟩)), (1, .int .i64 2), (6, .pointer (some ⟨b6, 0, none⟩)), (9, .pointer (some ⟨b9, 0, none⟩)), (10, .pointer (some ⟨b10, 0, none⟩))] (fun w' => St w w' [⟨b9, 123, m2 P n p⟩, ⟨b10, 123, m2 P n q⟩, ⟨b11, 123, z0 12⟩] ∧ TB w' bt bm P n N fr ∧ VB w' b4 128 [.pointer (some ⟨bt, 0, none⟩)] ∧ VB w' b5 125 (m6 P n X) ∧ VB w' b6 125 (m6 P n Y)) (fun w' => True) 999 none (by kernel_rfl) (by kernel_rfl) rfl rfl
    (.cons (Fact.eq _) rfl (.cons (Fact.eq _) rfl (.cons (Fact.eq _) rfl (.cons (Fact.eq _) rfl (.cons (Fact.eq _) rfl (.cons (Fact.eq _) rfl (.cons (Fact.eq _) rfl (.cons (Fact.eq _) rfl (.cons (Fact.eq _) rfl (.cons (Fact.eq _) rfl (.cons (Fact.eq _) rfl (.cons (Fact.eq _) rfl (.cons (Fact.eq _) rfl (.cons (Fact.eq _) rfl (.cons (Fact.eq _) rfl (.cons (Fact.eq _) rfl (.cons (Fact.eq _) rfl (.cons (Fact.eq _) rfl (.cons (Fact.eq _) rfl (.cons (Fact.eq _) rfl (.cons (Fact.eq _) rfl (.cons (Fact.eq _) rfl (.cons (Fact.eq _) rfl (.cons (Fact.eq _) rfl (.nil _))))))))))))))))))))))))) (fun w' h => ⟨hS0.out.next h, hT.out.next (hS0.out.next h).bl, h4.out.next (hS0.out.next h).bl, h5.out.next (hS0.out.next h).bl, h6.out.next (hS0.out.next h).bl⟩) (fun w' h => trivial) (by kernel_rfl) (by exact ⟨rfl, rfl, rfl, rfl, rfl, rfl, rfl, trivial⟩) (.cons ?_ (.cons ?_ (.cons ?_ (.cons ?_ (.cons ?_ (.cons ?_ (.cons ?_ (.cons ?_ (.cons ?_ (.cons ?_ (.cons ?_ (.cons ?_ (.cons ?_ (.cons ?_ (.cons ?_ (.cons ?_ (.cons ?_ (.cons ?_ (.cons ?_ (.cons ?_ (.cons ?_ (.cons ?_ (.cons ?_ (.cons ?_ .nil)))))))))))))))))))))))) ?_
  · refine Obl.plain rfl _ rfl rfl [] (by kernel_rfl) fun a W hF hC hD K hK => ?_
    obtain ⟨c1, c2, c3, c4, c5⟩ := hC
    have e4 : a.tmps.getD 4 undef = .pointer (some ⟨b4, 0, none⟩) := hF.1
    clear hF hD
    exact wp_ptr (.tmp 4) rfl e4 (c3.cell 0) Try.aggT (hK _ _ rfl (Below.refl _ _))
  · refine Obl.plain rfl _ rfl rfl [] (by kernel_rfl) fun a W hF hC hD K hK => ?_
    obtain ⟨c1, c2, c3, c4, c5⟩ := hC
    have e4 : a.tmps.getD 4 undef = .pointer (some ⟨b4, 0, none⟩) := hF.1
    clear hF hD
    exact wp_ptr (.tmp 4) rfl e4 (c3.cell 0) Try.aggT (hK _ _ rfl (Below.refl _ _))
  · refine Obl.plain rfl _ rfl rfl [] (by kernel_rfl) fun a W hF hC hD K hK => ?_
    obtain ⟨c1, c2, c3, c4, c5⟩ := hC
    have e4 : a.tmps.getD 4 undef = .pointer (some ⟨b4, 0, none⟩) := hF.1
    clear hF hD
    exact wp_ptr (.tmp 4) rfl e4 (c3.cell 0) Try.aggT (hK _ _ rfl (Below.refl _ _))
  · refine Obl.plain rfl _ rfl rfl [] (by kernel_rfl) fun a W hF hC hD K hK => ?_
    obtain ⟨c1, c2, c3, c4, c5⟩ := hC
    have e4 : a.tmps.getD 4 undef = .pointer (some ⟨b4, 0, none⟩) := hF.1
    clear hF hD
    exact wp_ptr (.tmp 4) rfl e4 (c3.cell 0) Try.aggT (hK _ _ rfl (Below.refl _ _))
  · refine Obl.plain rfl _ rfl rfl [] (by kernel_rfl) fun a W hF hC hD K hK => ?_
    have e0 : a.tmps.getD 0 undef = .int .i64 1 := hF.2.1
    clear hF hD hC
    exact wp_move (.tmp 0) rfl e0 (hK _ _ rfl (Below.refl _ _))
  · refine Obl.plain rfl _ rfl rfl [4] (by kernel_rfl) fun a W hF hC hD K hK => ?_
    have e5 : a.tmps.getD 5 undef = .pointer (some ⟨b5, 0, none⟩) := hF.2.2.1
    have e16 : a.tmps.getD 16 undef = .int .i64 1 := hD.1
    clear hF hD hC
    exact wp_idx (.tmp 5) (.tmp 16) rfl e5 1 e16 Try.underlying125 Try.szE2 (by decide) (hK _ _ rfl (Below.refl _ _))
  · refine Obl.plain rfl _ rfl rfl [5] (by kernel_rfl) fun a W hF hC hD K hK => ?_
    obtain ⟨c1, c2, c3, c4, c5⟩ := hC
    have e17 : a.tmps.getD 17 undef = .pointer (some ⟨b5, 12, none⟩) := hD.1
    clear hF hD
    exact wpLd 123 (.tmp 17) rfl c4 12 e17 (m2 P n X.b) (part_mid _ _ _ (m2_len P n _) (m2_len P n _)) (m2_len P n _) Try.underlying123 rfl Try.szE2 (hK _ _ rfl (Below.refl _ _))
  · refine Obl.plain rfl _ rfl rfl [] (by kernel_rfl) fun a W hF hC hD K hK => ?_
    have e1 : a.tmps.getD 1 undef = .int .i64 2 := hF.2.2.2.1
    clear hF hD hC
    exact wp_move (.tmp 1) rfl e1 (hK _ _ rfl (Below.refl _ _))
  · refine Obl.plain rfl _ rfl rfl [7] (by kernel_rfl) fun a W hF hC hD K hK => ?_
    have e5 : a.tmps.getD 5 undef = .pointer (some ⟨b5, 0, none⟩) := hF.2.2.1
    have e19 : a.tmps.getD 19 undef = .int .i64 2 := hD.1
    clear hF hD hC
    exact wp_idx (.tmp 5) (.tmp 19) rfl e5 2 e19 Try.underlying125 Try.szE2 (by decide) (hK _ _ rfl (Below.refl _ _))
  · refine Obl.plain rfl _ rfl rfl [8] (by kernel_rfl) fun a W hF hC hD K hK => ?_
    obtain ⟨c1, c2, c3, c4, c5⟩ := hC
    have e20 : a.tmps.getD 20 undef = .pointer (some ⟨b5, 24, none⟩) := hD.1
    clear hF hD
    exact wpLd 123 (.tmp 20) rfl c4 24 e20 (m2 P n X.c) (part_end _ _ _ rfl (m2_len P n _)) (m2_len P n _) Try.underlying123 rfl Try.szE2 (hK _ _ rfl (Below.refl _ _))
  · refine Obl.plain rfl _ rfl rfl [3, 6, 9] (by kernel_rfl) fun a W hF hC hD K hK => ?_
    obtain ⟨c1, c2, c3, c4, c5⟩ := hC
    have e15 : a.tmps.getD 15 undef = .pointer (some ⟨bt, 0, none⟩) := hD.1
    have e18 : a.tmps.getD 18 undef = .agg (m2 P n X.b).toArray := hD.2.1
    have e21 : a.tmps.getD 21 undef = .agg (m2 P n X.c).toArray := hD.2.2.1
    clear hF hD
    exact wp_callV #[a.tmps.getD 15 undef, a.tmps.getD 18 undef, a.tmps.getD 21 undef] #[.pointer (some ⟨bt, 0, none⟩), .agg (m2 P n X.b).toArray, .agg (m2 P n X.c).toArray] (.agg (m2 P n (Z2.add X.b X.c)).toArray) (by kernel_rfl) (by rw [e15, e18, e21]) (xadd2 X.b X.c c2 hI.out) (fun w' hb => hK _ _ rfl hb)
  · refine Obl.plain rfl _ rfl rfl [] (by kernel_rfl) fun a W hF hC hD K hK => ?_
    obtain ⟨c1, c2, c3, c4, c5⟩ := hC
    have e4 : a.tmps.getD 4 undef = .pointer (some ⟨b4, 0, none⟩) := hF.1
    clear hF hD
    exact wp_ptr (.tmp 4) rfl e4 (c3.cell 0) Try.aggT (hK _ _ rfl (Below.refl _ _))
  · refine Obl.plain rfl _ rfl rfl [] (by kernel_rfl) fun a W hF hC hD K hK => ?_
    have e0 : a.tmps.getD 0 undef = .int .i64 1 := hF.2.1
    clear hF hD hC
    exact wp_move (.tmp 0) rfl e0 (hK _ _ rfl (Below.refl _ _))
  · refine Obl.plain rfl _ rfl rfl [12] (by kernel_rfl) fun a W hF hC hD K hK => ?_
    have e6 : a.tmps.getD 6 undef = .pointer (some ⟨b6, 0, none⟩) := hF.2.2.2.2.1
    have e24 : a.tmps.getD 24 undef = .int .i64 1 := hD.1
    clear hF hD hC
    exact wp_idx (.tmp 6) (.tmp 24) rfl e6 1 e24 Try.underlying125 Try.szE2 (by decide) (hK _ _ rfl (Below.refl _ _))
  · refine Obl.plain rfl _ rfl rfl [13] (by kernel_rfl) fun a W hF hC hD K hK => ?_
    obtain ⟨c1, c2, c3, c4, c5⟩ := hC
    have e25 : a.tmps.getD 25 undef = .pointer (some ⟨b6, 12, none⟩) := hD.1
    clear hF hD
    exact wpLd 123 (.tmp 25) rfl c5 12 e25 (m2 P n Y.b) (part_mid _ _ _ (m2_len P n _) (m2_len P n _)) (m2_len P n _) Try.underlying123 rfl Try.szE2 (hK _ _ rfl (Below.refl _ _))
  · refine Obl.plain rfl _ rfl rfl [] (by kernel_rfl) fun a W hF hC hD K hK => ?_
    have e1 : a.tmps.getD 1 undef = .int .i64 2 := hF.2.2.2.1
    clear hF hD hC
    exact wp_move (.tmp 1) rfl e1 (hK _ _ rfl (Below.refl _ _))
  · refine Obl.plain rfl _ rfl rfl [15] (by kernel_rfl) fun a W hF hC hD K hK => ?_
    have e6 : a.tmps.getD 6 undef = .pointer (some ⟨b6, 0, none⟩) := hF.2.2.2.2.1
    have e27 : a.tmps.getD 27 undef = .int .i64 2 := hD.1
    clear hF hD hC
    exact wp_idx (.tmp 6) (.tmp 27) rfl e6 2 e27 Try.underlying125 Try.szE2 (by decide) (hK _ _ rfl (Below.refl _ _))
  · refine Obl.plain rfl _ rfl rfl [16] (by kernel_rfl) fun a W hF hC hD K hK => ?_
    obtain ⟨c1, c2, c3, c4, c5⟩ := hC
    have e28 : a.tmps.getD 28 undef = .pointer (some ⟨b6, 24, none⟩) := hD.1
    clear hF hD
    exact wpLd 123 (.tmp 28) rfl c5 24 e28 (m2 P n Y.c) (part_end _ _ _ rfl (m2_len P n _)) (m2_len P n _) Try.underlying123 rfl Try.szE2 (hK _ _ rfl (Below.refl _ _))
  · refine Obl.plain rfl _ rfl rfl [11, 14, 17, 10] (by kernel_rfl) fun a W hF hC hD K hK => ?_
    obtain ⟨c1, c2, c3, c4, c5⟩ := hC
    have e23 : a.tmps.getD 23 undef = .pointer (some ⟨bt, 0, none⟩) := hD.1
    have e26 : a.tmps.getD 26 undef = .agg (m2 P n Y.b).toArray := hD.2.1
    have e29 : a.tmps.getD 29 undef = .agg (m2 P n Y.c).toArray := hD.2.2.1
    clear hF hD
    exact wp_callV #[a.tmps.getD 23 undef, a.tmps.getD 26 undef, a.tmps.getD 29 undef] #[.pointer (some ⟨bt, 0, none⟩), .agg (m2 P n Y.b).toArray, .agg (m2 P n Y.c).toArray] (.agg (m2 P n (Z2.add Y.b Y.c)).toArray) (by kernel_rfl) (by rw [e23, e26, e29]) (xadd2 Y.b Y.c c2 hI.out) (fun w' hb => hK _ _ rfl hb)
  · refine Obl.plain rfl _ rfl rfl [2, 10, 18, 18] (by kernel_rfl) fun a W hF hC hD K hK => ?_
    obtain ⟨c1, c2, c3, c4, c5⟩ := hC
    have e14 : a.tmps.getD 14 undef = .pointer (some ⟨bt, 0, none⟩) := hD.1
    have e22 : a.tmps.getD 22 undef = .agg (m2 P n (Z2.add X.b X.c)).toArray := hD.2.1
    have e30 : a.tmps.getD 30 undef = .agg (m2 P n (Z2.add Y.b Y.c)).toArray := hD.2.2.1
    clear hF hD
    exact wp_callV #[a.tmps.getD 14 undef, a.tmps.getD 22 undef, a.tmps.getD 30 undef] #[.pointer (some ⟨bt, 0, none⟩), .agg (m2 P n (Z2.add X.b X.c)).toArray, .agg (m2 P n (Z2.add Y.b Y.c)).toArray] (.agg (m2 P n (Z2.mul (Z2.add X.b X.c) (Z2.add Y.b Y.c))).toArray) (by kernel_rfl) (by rw [e14, e22, e30]) (xmul2 (Z2.add X.b X.c) (Z2.add Y.b Y.c) c2 hI.out) (fun w' hb => hK _ _ rfl hb)
  · refine Obl.plain rfl _ rfl rfl [] (by kernel_rfl) fun a W hF hC hD K hK => ?_
    obtain ⟨c1, c2, c3, c4, c5⟩ := hC
    have e9 : a.tmps.getD 9 undef = .pointer (some ⟨b9, 0, none⟩) := hF.2.2.2.2.2.1
    clear hF hD
    exact wpLd 123 (.tmp 9) rfl (c1.vb 0 _ rfl) 0 e9 (m2 P n p) (part_all _ (m2_len P n _)) (m2_len P n _) Try.underlying123 rfl Try.szE2 (hK _ _ rfl (Below.refl _ _))
  · refine Obl.plain rfl _ rfl rfl [1, 19, 20, 19] (by kernel_rfl) fun a W hF hC hD K hK => ?_
    obtain ⟨c1, c2, c3, c4, c5⟩ := hC
    have e13 : a.tmps.getD 13 undef = .pointer (some ⟨bt, 0, none⟩) := hD.1
    have e31 : a.tmps.getD 31 undef = .agg (m2 P n (Z2.mul (Z2.add X.b X.c) (Z2.add Y.b Y.c))).toArray := hD.2.1
    have e32 : a.tmps.getD 32 undef = .agg (m2 P n p).toArray := hD.2.2.1
    clear hF hD
    exact wp_callV #[a.tmps.getD 13 undef, a.tmps.getD 31 undef, a.tmps.getD 32 undef] #[.pointer (some ⟨bt, 0, none⟩), .agg (m2 P n (Z2.mul (Z2.add X.b X.c) (Z2.add Y.b Y.c))).toArray, .agg (m2 P n p).toArray] (.agg (m2 P n (Z2.sub (Z2.mul (Z2.add X.b X.c) (Z2.add Y.b Y.c)) p)).toArray) (by kernel_rfl) (by rw [e13, e31, e32]) (xsub2 (Z2.mul (Z2.add X.b X.c) (Z2.add Y.b Y.c)) p c2 hI.out) (fun w' hb => hK _ _ rfl hb)
  · refine Obl.plain rfl _ rfl rfl [] (by kernel_rfl) fun a W hF hC hD K hK => ?_
    obtain ⟨c1, c2, c3, c4, c5⟩ := hC
    have e10 : a.tmps.getD 10 undef = .pointer (some ⟨b10, 0, none⟩) := hF.2.2.2.2.2.2.1
    clear hF hD
    exact wpLd 123 (.tmp 10) rfl (c1.vb 1 _ rfl) 0 e10 (m2 P n q) (part_all _ (m2_len P n _)) (m2_len P n _) Try.underlying123 rfl Try.szE2 (hK _ _ rfl (Below.refl _ _))
  · refine Obl.plain rfl _ rfl rfl [0, 21, 22, 21] (by kernel_rfl) fun a W hF hC hD K hK => ?_
    obtain ⟨c1, c2, c3, c4, c5⟩ := hC
    have e12 : a.tmps.getD 12 undef = .pointer (some ⟨bt, 0, none⟩) := hD.1
    have e33 : a.tmps.getD 33 undef = .agg (m2 P n (Z2.sub (Z2.mul (Z2.add X.b X.c) (Z2.add Y.b Y.c)) p)).toArray := hD.2.1
    have e34 : a.tmps.getD 34 undef = .agg (m2 P n q).toArray := hD.2.2.1
    clear hF hD
    exact wp_callV #[a.tmps.getD 12 undef, a.tmps.getD 33 undef, a.tmps.getD 34 undef] #[.pointer (some ⟨bt, 0, none⟩), .agg (m2 P n (Z2.sub (Z2.mul (Z2.add X.b X.c) (Z2.add Y.b Y.c)) p)).toArray, .agg (m2 P n q).toArray] (.agg (m2 P n (Z2.sub (Z2.sub (Z2.mul (Z2.add X.b X.c) (Z2.add Y.b Y.c)) p) q)).toArray) (by kernel_rfl) (by rw [e12, e33, e34]) (xsub2 (Z2.sub (Z2.mul (Z2.add X.b X.c) (Z2.add Y.b Y.c)) p) q c2 hI.out) (fun w' hb => hK _ _ rfl hb)
  rintro w1 hB hC _ rfl _ rfl _ rfl _ rfl _ rfl _ rfl _ rfl _ rfl _ rfl _ rfl _ rfl _ rfl _ rfl _ rfl _ rfl _ rfl _ rfl _ rfl _ rfl _ rfl _ rfl _ rfl _ rfl _ rfl
  change Below _ _ _ at hB
  change wpList _ _ _ _ _ _
  simp only [List.drop_succ_cons, List.drop_zero, Act.put, List.setIfInBounds_toArray, List.set_cons_zero, List.set_cons_succ]
  have hS1 := hide (hS0.out.next hB)
  clear hB hC hS0
  go_wp2_with ((with_reducible refine storeWS (n := 12) (o := ⟨none, _, _, _, _, _⟩) ?_ 123 (.tmp 11) (.tmp 35) ?_ hS1.out 2 (c := ⟨b11, 123, z0 12⟩) ?_ ?_ (m2 P n (Z2.sub (Z2.sub (Z2.mul (Z2.add X.b X.c) (Z2.add Y.b Y.c)) p) q)) ?_ ?_ ?_ ?_ Try.szE2 ?_); rfl; rfl; rfl; rfl; rfl; rfl; rfl; rfl; intro wz hZ hO)
  exact retS rfl hZ 2 (c := ⟨b11, 123, m2 P n (Z2.sub (Z2.sub (Z2.mul (Z2.add X.b X.c) (Z2.add Y.b Y.c)) p) q)⟩) rfl rfl Try.underlying123 rfl Try.szE2 rfl ⟨rfl, hZ.bl⟩

set_option maxRecDepth 100000 in
set_option maxHeartbeats 3200000 in
theorem xcr01 {bt bm P n b4 b5 b6 : Nat} {N : Int} {fr : List Value} {w : World} (X Y : Z6) (p q : Z2) (hT : TB w bt bm P n N fr) (hI : InvOk P) (h4 : VB w b4 128 [.pointer (some ⟨bt, 0, none⟩)]) (h5 : VB w b5 125 (m6 P n X)) (h6 : VB w b6 125 (m6 P n Y)) :
    Calls Try.prog 133 #[.int .i64 0, .int .i64 1, .agg (m2 P n p).toArray, .agg (m2 P n q).toArray, .pointer (some ⟨b4, 0, none⟩), .pointer (some ⟨b5, 0, none⟩), .pointer (some ⟨b6, 0, none⟩)] w fun e w' => e = .returned (.agg (m2 P n (Z6.crs X.a X.b Y.a Y.b p q)).toArray) ∧ Below w.heap.size w w' := by
  have hT := hide hT
  have hI := hide hI
  have h4 := hide h4
  have h5 := hide h5
  have h6 := hide h6
  go_enter Try.func133, Try.ntmps133
  have hq0 := hide (St.start w)
  go_upto_region 1 with (first
    | ((with_reducible refine boxS (o := ⟨some 9, _, _, _, _, _⟩) ?_ 123 (.tmp 2) ?_ hq0.out (m2 P n p) ?_ ?_); rfl; rfl; rfl; intro wq1 b9 hS; have hq1 : Hid (St w wq1 [⟨b9, 123, m2 P n p⟩]) := hide hS; clear hS)
    | ((with_reducible refine boxS (o := ⟨some 10, _, _, _, _, _⟩) ?_ 123 (.tmp 3) ?_ hq1.out (m2 P n q) ?_ ?_); rfl; rfl; rfl; intro wq2 b10 hS; have hq2 : Hid (St w wq2 [⟨b9, 123, m2 P n p⟩, ⟨b10, 123, m2 P n q⟩]) := hide hS; clear hS)
    | ((with_reducible refine allocS (o := ⟨some 11, _, _, _, _, _⟩) ?_ 123 ?_ hq2.out (z0 12) Try.zrE2 ?_); rfl; rfl; intro wq3 b11 hS; have hq3 : Hid (St w wq3 [⟨b9, 123, m2 P n p⟩, ⟨b10, 123, m2 P n q⟩, ⟨b11, 123, z0 12⟩]) := hide hS; clear hS))
  have hS0 := hq3
  clear hq0 hq1 hq2 hq3
  go_upto_region 1 with fail
  refine region_do 24 36 [fun v _ => v = .pointer (some ⟨bt, 0, none⟩), fun v _ => v = .pointer (some ⟨bt, 0, none⟩), fun v _ => v = .pointer (some ⟨bt, 0, none⟩), fun v _ => v = .pointer (some ⟨bt, 0, none⟩), fun v _ => v = .int .i64 0, fun v _ => v = .pointer (some ⟨b5, 0, none⟩), fun v _ => v = .agg (m2 P n X.a).toArray, fun v _ => v = .int .i64 1, fun v _ => v = .pointer (some ⟨b5, 12, none⟩), fun v _ => v = .agg (m2 P n X.b).toArray, fun v _ => v = .agg (m2 P n (Z2.add X.a X.b)).toArray, fun v _ => v = .pointer (some ⟨bt, 0, none⟩), fun v _ => v = .int .i64 0, fun v _ => v = .pointer (some ⟨b6, 0, none⟩), fun v _ => v = .agg (m2 P n Y.a).toArray, fun v _ => v = .int .i64 1, fun v _ => v = .pointer (some ⟨b6, 12, none⟩), fun v _ => v = .agg (m2 P n Y.b).toArray, fun v _ => v = .agg (m2 P n (Z2.add Y.a Y.b)).toArray, fun v _ => v = .agg (m2 P n (Z2.mul (Z2.add X.a X.b) (Z2.add Y.a Y.b))).toArray, fun v _ => v = .agg (m2 P n p).toArray, fun v _ => v = .agg (m2 P n (Z2.sub (Z2.mul (Z2.add X.a X.b) (Z2.add Y.a Y.b)) p)).toArray, fun v _ => v = .agg (m2 P n q).toArray, fun v _ => v = .agg (m2 P n (Z2.sub (Z2.sub (Z2.mul (Z2.add X.a X.b) (Z2.add Y.a Y.b)) p) q)).toArray]
    [(4, .pointer (some ⟨b4, 0, none⟩)), (0, .int .i64 0), (5, .pointer (some ⟨b5, 0, none⟩)), (1, .int .i64 1), (6, .pointer (some ⟨b6, 0, none⟩)), (9, .pointer (some ⟨b9, 0, none⟩)), (10, .pointer (some ⟨b10, 0, none⟩))] (fun w' => St w w' [⟨b9, 123, m2 P n p⟩, ⟨b10, 123, m2 P n q⟩, ⟨b11, 123, z0 12⟩] ∧ TB w' bt bm P n N fr ∧ VB w' b4 128 [.pointer (some ⟨bt, 0, none⟩)] ∧ VB w' b5 125 (m6 P n X) ∧ VB w' b6 125 (m6 P n Y)) (fun w' => True) 999 none (by kernel_rfl) (by kernel_rfl) rfl rfl
    (.cons (Fact.eq _) rfl (.cons (Fact.eq _) rfl (.cons (Fact.eq _) rfl (.cons (Fact.eq _) rfl (.cons (Fact.eq _) rfl (.cons (Fact.eq _) rfl (.cons (Fact.eq _) rfl (.cons (Fact.eq _) rfl (.cons (Fact.eq _) rfl (.cons (Fact.eq _) rfl (.cons (Fact.eq _) rfl (.cons (Fact.eq _) rfl (.cons (Fact.eq _) rfl (.cons (Fact.eq _) rfl (.cons (Fact.eq _) rfl (.cons (Fact.eq _) rfl (.cons (Fact.eq _) rfl (.cons (Fact.eq _) rfl (.cons (Fact.eq _) rfl (.cons (Fact.eq _) rfl (.cons (Fact.eq _) rfl (.cons (Fact.eq _) rfl (.cons (Fact.eq _) rfl (.cons (Fact.eq _) rfl (.nil _))))))))))))))))))))))))) (fun w' h => ⟨hS0.out.next h, hT.out.next (hS0.out.next h).bl, h4.out.next (hS0.out.next h).bl, h5.out.next (hS0.out.next h).bl, h6.out.next (hS0.out.next h).bl⟩) (fun w' h => trivial) (by kernel_rfl) (by exact ⟨rfl, rfl, rfl, rfl, rfl, rfl, rfl, trivial⟩) (.cons ?_ (.cons ?_ (.cons ?_ (.cons ?_ (.cons ?_ (.cons ?_ (.cons ?_ (.cons ?_ (.cons ?_ (.cons ?_ (.cons ?_ (.cons ?_ (.cons ?_ (.cons ?_ (.cons ?_ (.cons ?_ (.cons ?_ (.cons ?_ (.cons ?_ (.cons ?_ (.cons ?_ (.cons ?_ (.cons ?_ (.cons ?_ .nil)))))))))))))))))))))))) ?_
  · refine Obl.plain rfl _ rfl rfl [] (by kernel_rfl) fun a W hF hC hD K hK => ?_
    obtain ⟨c1, c2, c3, c4, c5⟩ := hC
    have e4 : a.tmps.getD 4 undef = .pointer (some ⟨b4, 0, none⟩) := hF.1
    clear hF hD
    exact wp_ptr (.tmp 4) rfl e4 (c3.cell 0) Try.aggT (hK _ _ rfl (Below.refl _ _))
  · refine Obl.plain rfl _ rfl rfl [] (by kernel_rfl) fun a W hF hC hD K hK => ?_
    obtain ⟨c1, c2, c3, c4, c5⟩ := hC
    have e4 : a.tmps.getD 4 undef = .pointer (some ⟨b4, 0, none⟩) := hF.1
    clear hF hD
    exact wp_ptr (.tmp 4) rfl e4 (c3.cell 0) Try.aggT (hK _ _ rfl (Below.refl _ _))
  · refine Obl.plain rfl _ rfl rfl [] (by kernel_rfl) fun a W hF hC hD K hK => ?_
    obtain ⟨c1, c2, c3, c4, c5⟩ := hC
    have e4 : a.tmps.getD 4 undef = .pointer (some ⟨b4, 0, none⟩) := hF.1
    clear hF hD
    exact wp_ptr (.tmp 4) rfl e4 (c3.cell 0) Try.aggT (hK _ _ rfl (Below.refl _ _))
  · refine Obl.plain rfl _ rfl rfl [] (by kernel_rfl) fun a W hF hC hD K hK => ?_
    obtain ⟨c1, c2, c3, c4, c5⟩ := hC
    have e4 : a.tmps.getD 4 undef = .pointer (some ⟨b4, 0, none⟩) := hF.1
    clear hF hD
    exact wp_ptr (.tmp 4) rfl e4 (c3.cell 0) Try.aggT (hK _ _ rfl (Below.refl _ _))
  · refine Obl.plain rfl _ rfl rfl [] (by kernel_rfl) fun a W hF hC hD K hK => ?_
    have e0 : a.tmps.getD 0 undef = .int .i64 0 := hF.2.1
    clear hF hD hC
    exact wp_move (.tmp 0) rfl e0 (hK _ _ rfl (Below.refl _ _))
  · refine Obl.plain rfl _ rfl rfl [4] (by kernel_rfl) fun a W hF hC hD K hK => ?_
    have e5 : a.tmps.getD 5 undef = .pointer (some ⟨b5, 0, none⟩) := hF.2.2.1
    have e16 : a.tmps.getD 16 undef = .int .i64 0 := hD.1
    clear hF hD hC
    exact wp_idx (.tmp 5) (.tmp 16) rfl e5 0 e16 Try.underlying125 Try.szE2 (by decide) (hK _ _ rfl (Below.refl _ _))
  · refine Obl.plain rfl _ rfl rfl [5] (by kernel_rfl) fun a W hF hC hD K hK => ?_
    obtain ⟨c1, c2, c3, c4, c5⟩ := hC
    have e17 : a.tmps.getD 17 undef = .pointer (some ⟨b5, 0, none⟩) := hD.1
    clear hF hD
    exact wpLd 123 (.tmp 17) rfl c4 0 e17 (m2 P n X.a) (part0 _ _ (m2_len P n _)) (m2_len P n _) Try.underlying123 rfl Try.szE2 (hK _ _ rfl (Below.refl _ _))
  · refine Obl.plain rfl _ rfl rfl [] (by kernel_rfl) fun a W hF hC hD K hK => ?_
    have e1 : a.tmps.getD 1 undef = .int .i64 1 := hF.2.2.2.1
    clear hF hD hC
    exact wp_move (.tmp 1) rfl e1 (hK _ _ rfl (Below.refl _ _))
  · refine Obl.plain rfl _ rfl rfl [7] (by kernel_rfl) fun a W hF hC hD K hK => ?_
    have e5 : a.tmps.getD 5 undef = .pointer (some ⟨b5, 0, none⟩) := hF.2.2.1
    have e19 : a.tmps.getD 19 undef = .int .i64 1 := hD.1
    clear hF hD hC
    exact wp_idx (.tmp 5) (.tmp 19) rfl e5 1 e19 Try.underlying125 Try.szE2 (by decide) (hK _ _ rfl (Below.refl _ _))
  · refine Obl.plain rfl _ rfl rfl [8] (by kernel_rfl) fun a W hF hC hD K hK => ?_
    obtain ⟨c1, c2, c3, c4, c5⟩ := hC
    have e20 : a.tmps.getD 20 undef = .pointer (some ⟨b5, 12, none⟩) := hD.1
    clear hF hD
    exact wpLd 123 (.tmp 20) rfl c4 12 e20 (m2 P n X.b) (part_mid _ _ _ (m2_len P n _) (m2_len P n _)) (m2_len P n _) Try.underlying123 rfl Try.szE2 (hK _ _ rfl (Below.refl _ _))
  · refine Obl.plain rfl _ rfl rfl [3, 6, 9] (by kernel_rfl) fun a W hF hC hD K hK => ?_
    obtain ⟨c1, c2, c3, c4, c5⟩ := hC
    have e15 : a.tmps.getD 15 undef = .pointer (some ⟨bt, 0, none⟩) := hD.1
    have e18 : a.tmps.getD 18 undef = .agg (m2 P n X.a).toArray := hD.2.1
    have e21 : a.tmps.getD 21 undef = .agg (m2 P n X.b).toArray := hD.2.2.1
    clear hF hD
    exact wp_callV #[a.tmps.getD 15 undef, a.tmps.getD 18 undef, a.tmps.getD 21 undef] #[.pointer (some ⟨bt, 0, none⟩), .agg (m2 P n X.a).toArray, .agg (m2 P n X.b).toArray] (.agg (m2 P n (Z2.add X.a X.b)).toArray) (by kernel_rfl) (by rw [e15, e18, e21]) (xadd2 X.a X.b c2 hI.out) (fun w' hb => hK _ _ rfl hb)
  · refine Obl.plain rfl _ rfl rfl [] (by kernel_rfl) fun a W hF hC hD K hK => ?_
    obtain ⟨c1, c2, c3, c4, c5⟩ := hC
    have e4 : a.tmps.getD 4 undef = .pointer (some ⟨b4, 0, none⟩) := hF.1
    clear hF hD
    exact wp_ptr (.tmp 4) rfl e4 (c3.cell 0) Try.aggT (hK _ _ rfl (Below.refl _ _))
  · refine Obl.plain rfl _ rfl rfl [] (by kernel_rfl) fun a W hF hC hD K hK => ?_
    have e0 : a.tmps.getD 0 undef = .int .i64 0 := hF.2.1
    clear hF hD hC
    exact wp_move (.tmp 0) rfl e0 (hK _ _ rfl (Below.refl _ _))
  · refine Obl.plain rfl _ rfl rfl [12] (by kernel_rfl) fun a W hF hC hD K hK => ?_
    have e6 : a.tmps.getD 6 undef = .pointer (some ⟨b6, 0, none⟩) := hF.2.2.2.2.1
    have e24 : a.tmps.getD 24 undef = .int .i64 0 := hD.1
    clear hF hD hC
    exact wp_idx (.tmp 6) (.tmp 24) rfl e6 0 e24 Try.underlying125 Try.szE2 (by decide) (hK _ _ rfl (Below.refl _ _))
  · refine Obl.plain rfl _ rfl rfl [13] (by kernel_rfl) fun a W hF hC hD K hK => ?_
    obtain ⟨c1, c2, c3, c4, c5⟩ := hC
    have e25 : a.tmps.getD 25 undef = .pointer (some ⟨b6, 0, none⟩) := hD.1
    clear hF hD
    exact wpLd 123 (.tmp 25) rfl c5 0 e25 (m2 P n Y.a) (part0 _ _ (m2_len P n _)) (m2_len P n _) Try.underlying123 rfl Try.szE2 (hK _ _ rfl (Below.refl _ _))
  · refine Obl.plain rfl _ rfl rfl [] (by kernel_rfl) fun a W hF hC hD K hK => ?_
    have e1 : a.tmps.getD 1 undef = .int .i64 1 := hF.2.2.2.1
    clear hF hD hC
    exact wp_move (.tmp 1) rfl e1 (hK _ _ rfl (Below.refl _ _))
  · refine Obl.plain rfl _ rfl rfl [15] (by kernel_rfl) fun a W hF hC hD K hK => ?_
    have e6 : a.tmps.getD 6 undef = .pointer (some ⟨b6, 0, none⟩) := hF.2.2.2.2.1
    have e27 : a.tmps.getD 27 undef = .int .i64 1 := hD.1
    clear hF hD hC
    exact wp_idx (.tmp 6) (.tmp 27) rfl e6 1 e27 Try.underlying125 Try.szE2 (by decide) (hK _ _ rfl (Below.refl _ _))
  · refine Obl.plain rfl _ rfl rfl [16] (by kernel_rfl) fun a W hF hC hD K hK => ?_
    obtain ⟨c1, c2, c3, c4, c5⟩ := hC
    have e28 : a.tmps.getD 28 undef = .pointer (some ⟨b6, 12, none⟩) := hD.1
    clear hF hD
    exact wpLd 123 (.tmp 28) rfl c5 12 e28 (m2 P n Y.b) (part_mid _ _ _ (m2_len P n _) (m2_len P n _)) (m2_len P n _) Try.underlying123 rfl Try.szE2 (hK _ _ rfl (Below.refl _ _))
  · refine Obl.plain rfl _ rfl rfl [11, 14, 17, 10] (by kernel_rfl) fun a W hF hC hD K hK => ?_
    obtain ⟨c1, c2, c3, c4, c5⟩ := hC
    have e23 : a.tmps.getD 23 undef = .pointer (some ⟨bt, 0, none⟩) := hD.1
    have e26 : a.tmps.getD 26 undef = .agg (m2 P n Y.a).toArray := hD.2.1
    have e29 : a.tmps.getD 29 undef = .agg (m2 P n Y.b).toArray := hD.2.2.1
    clear hF hD
    exact wp_callV #[a.tmps.getD 23 undef, a.tmps.getD 26 undef, a.tmps.getD 29 undef] #[.pointer (some ⟨bt, 0, none⟩), .agg (m2 P n Y.a).toArray, .agg (m2 P n Y.b).toArray] (.agg (m2 P n (Z2.add Y.a Y.b)).toArray) (by kernel_rfl) (by rw [e23, e26, e29]) (xadd2 Y.a Y.b c2 hI.out) (fun w' hb => hK _ _ rfl hb)
  · refine Obl.plain rfl _ rfl rfl [2, 10, 18, 18] (by kernel_rfl) fun a W hF hC hD K hK => ?_
    obtain ⟨c1, c2, c3, c4, c5⟩ := hC
    have e14 : a.tmps.getD 14 undef = .pointer (some ⟨bt, 0, none⟩) := hD.1
    have e22 : a.tmps.getD 22 undef = .agg (m2 P n (Z2.add X.a X.b)).toArray := hD.2.1
    have e30 : a.tmps.getD 30 undef = .agg (m2 P n (Z2.add Y.a Y.b)).toArray := hD.2.2.1
    clear hF hD
    exact wp_callV #[a.tmps.getD 14 undef, a.tmps.getD 22 undef, a.tmps.getD 30 undef] #[.pointer (some ⟨bt, 0, none⟩), .agg (m2 P n (Z2.add X.a X.b)).toArray, .agg (m2 P n (Z2.add Y.a Y.b)).toArray] (.agg (m2 P n (Z2.mul (Z2.add X.a X.b) (Z2.add Y.a Y.b))).toArray) (by kernel_rfl) (by rw [e14, e22, e30]) (xmul2 (Z2.add X.a X.b) (Z2.add Y.a Y.b) c2 hI.out) (fun w' hb => hK _ _ rfl hb)
  · refine Obl.plain rfl _ rfl rfl [] (by kernel_rfl) fun a W hF hC hD K hK => ?_
    obtain ⟨c1, c2, c3, c4, c5⟩ := hC
    have e9 : a.tmps.getD 9 undef = .pointer (some ⟨b9, 0, none⟩) := hF.2.2.2.2.2.1
    clear hF hD
    exact wpLd 123 (.tmp 9) rfl (c1.vb 0 _ rfl) 0 e9 (m2 P n p) (part_all _ (m2_len P n _)) (m2_len P n _) Try.underlying123 rfl Try.szE2 (hK _ _ rfl (Below.refl _ _))
  · refine Obl.plain rfl _ rfl rfl [1, 19, 20, 19] (by kernel_rfl) fun a W hF hC hD K hK => ?_
    obtain ⟨c1, c2, c3, c4, c5⟩ := hC
    have e13 : a.tmps.getD 13 undef = .pointer (some ⟨bt, 0, none⟩) := hD.1
    have e31 : a.tmps.getD 31 undef = .agg (m2 P n (Z2.mul (Z2.add X.a X.b) (Z2.add Y.a Y.b))).toArray := hD.2.1
    have e32 : a.tmps.getD 32 undef = .agg (m2 P n p).toArray := hD.2.2.1
    clear hF hD
    exact wp_callV #[a.tmps.getD 13 undef, a.tmps.getD 31 undef, a.tmps.getD 32 undef] #[.pointer (some ⟨bt, 0, none⟩), .agg (m2 P n (Z2.mul (Z2.add X.a X.b) (Z2.add Y.a Y.b))).toArray, .agg (m2 P n p).toArray] (.agg (m2 P n (Z2.sub (Z2.mul (Z2.add X.a X.b) (Z2.add Y.a Y.b)) p)).toArray) (by kernel_rfl) (by rw [e13, e31, e32]) (xsub2 (Z2.mul (Z2.add X.a X.b) (Z2.add Y.a Y.b)) p c2 hI.out) (fun w' hb => hK _ _ rfl hb)
  · refine Obl.plain rfl _ rfl rfl [] (by kernel_rfl) fun a W hF hC hD K hK => ?_
    obtain ⟨c1, c2, c3, c4, c5⟩ := hC
    have e10 : a.tmps.getD 10 undef = .pointer (some ⟨b10, 0, none⟩) := hF.2.2.2.2.2.2.1
    clear hF hD
    exact wpLd 123 (.tmp 10) rfl (c1.vb 1 _ rfl) 0 e10 (m2 P n q) (part_all _ (m2_len P n _)) (m2_len P n _) Try.underlying123 rfl Try.szE2 (hK _ _ rfl (Below.refl _ _))
  · refine Obl.plain rfl _ rfl rfl [0, 21, 22, 21] (by kernel_rfl) fun a W hF hC hD K hK => ?_
    obtain ⟨c1, c2, c3, c4, c5⟩ := hC
    have e12 : a.tmps.getD 12 undef = .pointer (some ⟨bt, 0, none⟩) := hD.1
    have e33 : a.tmps.getD 33 undef = .agg (m2 P n (Z2.sub (Z2.mul (Z2.add X.a X.b) (Z2.add Y.a Y.b)) p)).toArray := hD.2.1
    have e34 : a.tmps.getD 34 undef = .agg (m2 P n q).toArray := hD.2.2.1
    clear hF hD
    exact wp_callV #[a.tmps.getD 12 undef, a.tmps.getD 33 undef, a.tmps.getD 34 undef] #[.pointer (some ⟨bt, 0, none⟩), .agg (m2 P n (Z2.sub (Z2.mul (Z2.add X.a X.b) (Z2.add Y.a Y.b)) p)).toArray, .agg (m2 P n q).toArray] (.agg (m2 P n (Z2.sub (Z2.sub (Z2.mul (Z2.add X.a X.b) (Z2.add Y.a Y.b)) p) q)).toArray) (by kernel_rfl) (by rw [e12, e33, e34]) (xsub2 (Z2.sub (Z2.mul (Z2.add X.a X.b) (Z2.add Y.a Y.b)) p) q c2 hI.out) (fun w' hb => hK _ _ rfl hb)
  rintro w1 hB hC _ rfl _ rfl _ rfl _ rfl _ rfl _ rfl _ rfl _ rfl _ rfl _ rfl _ rfl _ rfl _ rfl _ rfl _ rfl _ rfl _ rfl _ rfl _ rfl _ rfl _ rfl _ rfl _ rfl _ rfl
  change Below _ _ _ at hB
  change wpList _ _ _ _ _ _
  simp only [List.drop_succ_cons, List.drop_zero, Act.put, List.setIfInBounds_toArray, List.set_cons_zero, List.set_cons_succ]
  have hS1 := hide (hS0.out.next hB)
  clear hB hC hS0
  go_wp2_with ((with_reducible refine storeWS (n := 12) (o := ⟨none, _, _, _, _, _⟩) ?_ 123 (.tmp 11) (.tmp 35) ?_ hS1.out 2 (c := ⟨b11, 123, z0 12⟩) ?_ ?_ (m2 P n (Z2.sub (Z2.sub (Z2.mul (Z2.add X.a X.b) (Z2.add Y.a Y.b)) p) q)) ?_ ?_ ?_ ?_ Try.szE2 ?_); rfl; rfl; rfl; rfl; rfl; rfl; rfl; rfl; intro wz hZ hO)
  exact retS rfl hZ 2 (c := ⟨b11, 123, m2 P n (Z2.sub (Z2.sub (Z2.mul (Z2.add X.a X.b) (Z2.add Y.a Y.b)) p) q)⟩) rfl rfl Try.underlying123 rfl Try.szE2 rfl ⟨rfl, hZ.bl⟩

set_option maxRecDepth 100000 in
set_option maxHeartbeats 3200000 in
theorem xcr02 {bt bm P n b4 b5 b6 : Nat} {N : Int} {fr : List Value} {w : World} (X Y : Z6) (p q : Z2) (hT : TB w bt bm P n N fr) (hI : InvOk P) (h4 : VB w b4 128 [.pointer (some ⟨bt, 0, none⟩)]) (h5 : VB w b5 125 (m6 P n X)) (h6 : VB w b6 125 (m6 P n Y)) :
    Calls Try.prog 133 #[.int .i64 0, .int .i64 2, .agg (m2 P n p).toArray, .agg (m2 P n q).toArray, .pointer (some ⟨b4, 0, none⟩), .pointer (some ⟨b5, 0, none⟩), .pointer (some ⟨b6, 0, none⟩)] w fun e w' => e = .returned (.agg (m2 P n (Z6.crs X.a X.c Y.a Y.c p q)).toArray) ∧ Below w.heap.size w w' := by
  have hT := hide hT
  have hI := hide hI
  have h4 := hide h4
  have h5 := hide h5
  have h6 := hide h6
  go_enter Try.func133, Try.ntmps133
  have hq0 := hide (St.start w)
  go_upto_region 1 with (first
    | ((with_reducible refine boxS (o := ⟨some 9, _, _, _, _, _⟩) ?_ 123 (.tmp 2) ?_ hq0.out (m2 P n p) ?_ ?_); rfl; rfl; rfl; intro wq1 b9 hS; have hq1 : Hid (St w wq1 [⟨b9, 123, m2 P n p⟩]) := hide hS; clear hS)
    | ((with_reducible refine boxS (o := ⟨some 10, _, _, _, _, _⟩) ?_ 123 (.tmp 3) ?_ hq1.out (m2 P n q) ?_ ?_); rfl; rfl; rfl; intro wq2 b10 hS; have hq2 : Hid (St w wq2 [⟨b9, 123, m2 P n p⟩, ⟨b10, 123, m2 P n q⟩]) := hide hS; clear hS)
    | ((with_reducible refine allocS (o := ⟨some 11, _, _, _, _, _⟩) ?_ 123 ?_ hq2.out (z0 12) Try.zrE2 ?_); rfl; rfl; intro wq3 b11 hS; have hq3 : Hid (St w wq3 [⟨b9, 123, m2 P n p⟩, ⟨b10, 123, m2 P n q⟩, ⟨b11, 123, z0 12⟩]) := hide hS; clear hS))
  have hS0 := hq3
  clear hq0 hq1 hq2 hq3
  go_upto_region 1 with fail
  refine region_do 24 36 [fun v _ => v = .pointer (some ⟨bt, 0, none⟩), fun v _ => v = .pointer (some ⟨bt, 0, none⟩), fun v _ => v = .pointer (some ⟨bt, 0, none⟩), fun v _ => v = .pointer (some ⟨bt, 0, none⟩), fun v _ => v = .int .i64 0, fun v _ => v = .pointer (some ⟨b5, 0, none⟩), fun v _ => v = .agg (m2 P n X.a).toArray, fun v _ => v = .int .i64 2, fun v _ => v = .pointer (some ⟨b5, 24, none⟩), fun v _ => v = .agg (m2 P n X.c).toArray, fun v _ => v = .agg (m2 P n (Z2.add X.a X.c)).toArray, fun v _ => v = .pointer (some ⟨bt, 0, none⟩), fun v _ => v = .int .i64 0, fun v _ => v = .pointer (some ⟨b6, 0, none⟩), fun v _ => v = .agg (m2 P n Y.a).toArray, fun v _ => v = .int .i64 2, fun v _ => v = .pointer (some ⟨b6, 24, none⟩), fun v _ => v = .agg (m2 P n Y.c).toArray, fun v _ => v = .agg (m2 P n (Z2.add Y.a Y.c)).toArray, fun v _ => v = .agg (m2 P n (Z2.mul (Z2.add X.a X.c) (Z2.add Y.a Y.c))).toArray, fun v _ => v = .agg (m2 P n p).toArray, fun v _ => v = .agg (m2 P n (Z2.sub (Z2.mul (Z2.add X.a X.c) (Z2.add Y.a Y.c)) p)).toArray, fun v _ => v = .agg (m2 P n q).toArray, fun v _ => v = .agg (m2 P n (Z2.sub (Z2.sub (Z2.mul (Z2.add X.a X.c) (Z2.add Y.a Y.c)) p) q)).toArray]
    [(4, .pointer (some ⟨b4, 0, none⟩)), (0, .int .i64 0), (5, .pointer (some ⟨b5, 0, none⟩)), (1, .int .i64 2), (6, .pointer (some ⟨b6, 0, none⟩)), (9, .pointer (some ⟨b9, 0, none⟩)), (10, .pointer (some ⟨b10, 0, none⟩))] (fun w' => St w w' [⟨b9, 123, m2 P n p⟩, ⟨b10, 123, m2 P n q⟩, ⟨b11, 123, z0 12⟩] ∧ TB w' bt bm P n N fr ∧ VB w' b4 128 [.pointer (some ⟨bt, 0, none⟩)] ∧ VB w' b5 125 (m6 P n X) ∧ VB w' b6 125 (m6 P n Y)) (fun w' => True) 999 none (by kernel_rfl) (by kernel_rfl) rfl rfl
    (.cons (Fact.eq _) rfl (.cons (Fact.eq _) rfl (.cons (Fact.eq _) rfl (.cons (Fact.eq _) rfl (.cons (Fact.eq _) rfl (.cons (Fact.eq _) rfl (.cons (Fact.eq _) rfl (.cons (Fact.eq _) rfl (.cons (Fact.eq _) rfl (.cons (Fact.eq _) rfl (.cons (Fact.eq _) rfl (.cons (Fact.eq _) rfl (.cons (Fact.eq _) rfl (.cons (Fact.eq _) rfl (.cons (Fact.eq _) rfl (.cons (Fact.eq _) rfl (.cons (Fact.eq _) rfl (.cons (Fact.eq _) rfl (.cons (Fact.eq _) rfl (.cons (Fact.eq _) rfl (.cons (Fact.eq _) rfl (.cons (Fact.eq _) rfl (.cons (Fact.eq _) rfl (.cons (Fact.eq _) rfl (.nil _))))))))))))))))))))))))) (fun w' h => ⟨hS0.out.next h, hT.out.next (hS0.out.next h).bl, h4.out.next (hS0.out.next h).bl, h5.out.next (hS0.out.next h).bl, h6.out.next (hS0.out.next h).bl⟩) (fun w' h => trivial) (by kernel_rfl) (by exact ⟨rfl, rfl, rfl, rfl, rfl, rfl, rfl, trivial⟩) (.cons ?_ (.cons ?_ (.cons ?_ (.cons ?_ (.cons ?_ (.cons ?_ (.cons ?_ (.cons ?_ (.cons ?_ (.cons ?_ (.cons ?_ (.cons ?_ (.cons ?_ (.cons ?_ (.cons ?_ (.cons ?_ (.cons ?_ (.cons ?_ (.cons ?_ (.cons ?_ (.cons ?_ (.cons ?_ (.cons ?_ (.cons ?_ .nil)))))))))))))))))))))))) ?_
  · refine Obl.plain rfl _ rfl rfl [] (by kernel_rfl) fun a W hF hC hD K hK => ?_
    obtain ⟨c1, c2, c3, c4, c5⟩ := hC
    have e4 : a.tmps.getD 4 undef = .pointer (some ⟨b4, 0, none⟩) := hF.1
    clear hF hD
    exact wp_ptr (.tmp 4) rfl e4 (c3.cell 0) Try.aggT (hK _ _ rfl (Below.refl _ _))
  · refine Obl.plain rfl _ rfl rfl [] (by kernel_rfl) fun a W hF hC hD K hK => ?_
    obtain ⟨c1, c2, c3, c4, c5⟩ := hC
    have e4 : a.tmps.getD 4 undef = .pointer (some ⟨b4, 0, none⟩) := hF.1
    clear hF hD
    exact wp_ptr (.tmp 4) rfl e4 (c3.cell 0) Try.aggT (hK _ _ rfl (Below.refl _ _))
  · refine Obl.plain rfl _ rfl rfl [] (by kernel_rfl) fun a W hF hC hD K hK => ?_
    obtain ⟨c1, c2, c3, c4, c5⟩ := hC
    have e4 : a.tmps.getD 4 undef = .pointer (some ⟨b4, 0, none⟩) := hF.1
    clear hF hD
    exact wp_ptr (.tmp 4) rfl e4 (c3.cell 0) Try.aggT (hK _ _ rfl (Below.refl _ _))
  · refine Obl.plain rfl _ rfl rfl [] (by kernel_rfl) fun a W hF hC hD K hK => ?_
    obtain ⟨c1, c2, c3, c4, c5⟩ := hC
    have e4 : a.tmps.getD 4 undef = .pointer (some ⟨b4, 0, none⟩) := hF.1
    clear hF hD
    exact wp_ptr (.tmp 4) rfl e4 (c3.cell 0) Try.aggT (hK _ _ rfl (Below.refl _ _))
  · refine Obl.plain rfl _ rfl rfl [] (by kernel_rfl) fun a W hF hC hD K hK => ?_
    have e0 : a.tmps.getD 0 undef = .int .i64 0 := hF.2.1
    clear hF hD hC
    exact wp_move (.tmp 0) rfl e0 (hK _ _ rfl (Below.refl _ _))
  · refine Obl.plain rfl _ rfl rfl [4] (by kernel_rfl) fun a W hF hC hD K hK => ?_
    have e5 : a.tmps.getD 5 undef = .pointer (some ⟨b5, 0, none⟩) := hF.2.2.1
    have e16 : a.tmps.getD 16 undef = .int .i64 0 := hD.1
    clear hF hD hC
    exact wp_idx (.tmp 5) (.tmp 16) rfl e5 0 e16 Try.underlying125 Try.szE2 (by decide) (hK _ _ rfl (Below.refl _ _))
  · refine Obl.plain rfl _ rfl rfl [5] (by kernel_rfl) fun a W hF hC hD K hK => ?_
    obtain ⟨c1, c2, c3, c4, c5⟩ := hC
    have e17 : a.tmps.getD 17 undef = .pointer (some ⟨b5, 0, none⟩) := hD.1
    clear hF hD
    exact wpLd 123 (.tmp 17) rfl c4 0 e17 (m2 P n X.a) (part0 _ _ (m2_len P n _)) (m2_len P n _) Try.underlying123 rfl Try.szE2 (hK _ _ rfl (Below.refl _ _))
  · refine Obl.plain rfl _ rfl rfl [] (by kernel_rfl) fun a W hF hC hD K hK => ?_
    have e1 : a.tmps.getD 1 undef = .int .i64 2 := hF.2.2.2.1
    clear hF hD hC
    exact wp_move (.tmp 1) rfl e1 (hK _ _ rfl (Below.refl _ _))
  · refine Obl.plain rfl _ rfl rfl [7] (by kernel_rfl) fun a W hF hC hD K hK => ?_
    have e5 : a.tmps.getD 5 undef = .pointer (some ⟨b5, 0, none⟩) := hF.2.2.1
    have e19 : a.tmps.getD 19 undef = .int .i64 2 := hD.1
    clear hF hD hC
    exact wp_idx (.tmp 5) (.tmp 19) rfl e5 2 e19 Try.underlying125 Try.szE2 (by decide) (hK _ _ rfl (Below.refl _ _))
  · refine Obl.plain rfl _ rfl rfl [8] (by kernel_rfl) fun a W hF hC hD K hK => ?_
    obtain ⟨c1, c2, c3, c4, c5⟩ := hC
    have e20 : a.tmps.getD 20 undef = .pointer (some ⟨b5, 24, none⟩) := hD.1
    clear hF hD
    exact wpLd 123 (.tmp 20) rfl c4 24 e20 (m2 P n X.c) (part_end _ _ _ rfl (m2_len P n _)) (m2_len P n _) Try.underlying123 rfl Try.szE2 (hK _ _ rfl (Below.refl _ _))
  · refine Obl.plain rfl _ rfl rfl [3, 6, 9] (by kernel_rfl) fun a W hF hC hD K hK => ?_
    obtain ⟨c1, c2, c3, c4, c5⟩ := hC
    have e15 : a.tmps.getD 15 undef = .pointer (some ⟨bt, 0, none⟩) := hD.1
    have e18 : a.tmps.getD 18 undef = .agg (m2 P n X.a).toArray := hD.2.1
    have e21 : a.tmps.getD 21 undef = .agg (m2 P n X.c).toArray := hD.2.2.1
    clear hF hD
    exact wp_callV #[a.tmps.getD 15 undef, a.tmps.getD 18 undef, a.tmps.getD 21 undef] #[.pointer (some ⟨bt, 0, none⟩), .agg (m2 P n X.a).toArray, .agg (m2 P n X.c).toArray] (.agg (m2 P n (Z2.add X.a X.c)).toArray) (by kernel_rfl) (by rw [e15, e18, e21]) (xadd2 X.a X.c c2 hI.out) (fun w' hb => hK _ _ rfl hb)
  · refine Obl.plain rfl _ rfl rfl [] (by kernel_rfl) fun a W hF hC hD K hK => ?_
    obtain ⟨c1, c2, c3, c4, c5⟩ := hC
    have e4 : a.tmps.getD 4 undef = .pointer (some ⟨b4, 0, none⟩) := hF.1
    clear hF hD
    exact wp_ptr (.tmp 4) rfl e4 (c3.cell 0) Try.aggT (hK _ _ rfl (Below.refl _ _))
  · refine Obl.plain rfl _ rfl rfl [] (by kernel_rfl) fun a W hF hC hD K hK => ?_
    have e0 : a.tmps.getD 0 undef = .int .i64 0 := hF.2.1
    clear hF hD hC
    exact wp_move (.tmp 0) rfl e0 (hK _ _ rfl (Below.refl _ _))
  · refine Obl.plain rfl _ rfl rfl [12] (by kernel_rfl) fun a W hF hC hD K hK => ?_
    have e6 : a.tmps.getD 6 undef = .pointer (some ⟨b6, 0, none⟩) := hF.2.2.2.2.1
    have e24 : a.tmps.getD 24 undef = .int .i64 0 := hD.1
    clear hF hD hC
    exact wp_idx (.tmp 6) (.tmp 24) rfl e6 0 e24 Try.underlying125 Try.szE2 (by decide) (hK _ _ rfl (Below.refl _ _))
  · refine Obl.plain rfl _ rfl rfl [13] (by kernel_rfl) fun a W hF hC hD K hK => ?_
    obtain ⟨c1, c2, c3, c4, c5⟩ := hC
    have e25 : a.tmps.getD 25 undef = .pointer (some ⟨b6, 0, none⟩) := hD.1
    clear hF hD
    exact wpLd 123 (.tmp 25) rfl c5 0 e25 (m2 P n Y.a) (part0 _ _ (m2_len P n _)) (m2_len P n _) Try.underlying123 rfl Try.szE2 (hK _ _ rfl (Below.refl _ _))
  · refine Obl.plain rfl _ rfl rfl [] (by kernel_rfl) fun a W hF hC hD K hK => ?_
    have e1 : a.tmps.getD 1 undef = .int .i64 2 := hF.2.2.2.1
    clear hF hD hC
    exact wp_move (.tmp 1) rfl e1 (hK _ _ rfl (Below.refl _ _))
  · refine Obl.plain rfl _ rfl rfl [15] (by kernel_rfl) fun a W hF hC hD K hK => ?_
    have e6 : a.tmps.getD 6 undef = .pointer (some ⟨b6, 0, none⟩) := hF.2.2.2.2.1
    have e27 : a.tmps.getD 27 undef = .int .i64 2 := hD.1
    clear hF hD hC
    exact wp_idx (.tmp 6) (.tmp 27) rfl e6 2 e27 Try.underlying125 Try.szE2 (by decide) (hK _ _ rfl (Below.refl _ _))
  · refine Obl.plain rfl _ rfl rfl [16] (by kernel_rfl) fun a W hF hC hD K hK => ?_
    obtain ⟨c1, c2, c3, c4, c5⟩ := hC
    have e28 : a.tmps.getD 28 undef = .pointer (some ⟨b6, 24, none⟩) := hD.1
    clear hF hD
    exact wpLd 123 (.tmp 28) rfl c5 24 e28 (m2 P n Y.c) (part_end _ _ _ rfl (m2_len P n _)) (m2_len P n _) Try.underlying123 rfl Try.szE2 (hK _ _ rfl (Below.refl _ _))
  · refine Obl.plain rfl _ rfl rfl [11, 14, 17, 10] (by kernel_rfl) fun a W hF hC hD K hK => ?_
    obtain ⟨c1, c2, c3, c4, c5⟩ := hC
    have e23 : a.tmps.getD 23 undef = .pointer (some ⟨bt, 0, none⟩) := hD.1
    have e26 : a.tmps.getD 26 undef = .agg (m2 P n Y.a).toArray := hD.2.1
    have e29 : a.tmps.getD 29 undef = .agg (m2 P n Y.c).toArray := hD.2.2.1
    clear hF hD
    exact wp_callV #[a.tmps.getD 23 undef, a.tmps.getD 26 undef, a.tmps.getD 29 undef] #[.pointer (some ⟨bt, 0, none⟩), .agg (m2 P n Y.a).toArray, .agg (m2 P n Y.c).toArray] (.agg (m2 P n (Z2.add Y.a Y.c)).toArray) (by kernel_rfl) (by rw [e23, e26, e29]) (xadd2 Y.a Y.c c2 hI.out) (fun w' hb => hK _ _ rfl hb)
  · refine Obl.plain rfl _ rfl rfl [2, 10, 18, 18] (by kernel_rfl) fun a W hF hC hD K hK => ?_
    obtain ⟨c1, c2, c3, c4, c5⟩ := hC
    have e14 : a.tmps.getD 14 undef = .pointer (some ⟨bt, 0, none⟩) := hD.1
    have e22 : a.tmps.getD 22 undef = .agg (m2 P n (Z2.add X.a X.c)).toArray := hD.2.1
    have e30 : a.tmps.getD 30 undef = .agg (m2 P n (Z2.add Y.a Y.c)).toArray := hD.2.2.1
    clear hF hD
    exact wp_callV #[a.tmps.getD 14 undef, a.tmps.getD 22 undef, a.tmps.getD 30 undef] #[.pointer (some ⟨bt, 0, none⟩), .agg (m2 P n (Z2.add X.a X.c)).toArray, .agg (m2 P n (Z2.add Y.a Y.c)).toArray] (.agg (m2 P n (Z2.mul (Z2.add X.a X.c) (Z2.add Y.a Y.c))).toArray) (by kernel_rfl) (by rw [e14, e22, e30]) (xmul2 (Z2.add X.a X.c) (Z2.add Y.a Y.c) c2 hI.out) (fun w' hb => hK _ _ rfl hb)
  · refine Obl.plain rfl _ rfl rfl [] (by kernel_rfl) fun a W hF hC hD K hK => ?_
    obtain ⟨c1, c2, c3, c4, c5⟩ := hC
    have e9 : a.tmps.getD 9 undef = .pointer (some ⟨b9, 0, none⟩) := hF.2.2.2.2.2.1
    clear hF hD
    exact wpLd 123 (.tmp 9) rfl (c1.vb 0 _ rfl) 0 e9 (m2 P n p) (part_all _ (m2_len P n _)) (m2_len P n _) Try.underlying123 rfl Try.szE2 (hK _ _ rfl (Below.refl _ _))
  · refine Obl.plain rfl _ rfl rfl [1, 19, 20, 19] (by kernel_rfl) fun a W hF hC hD K hK => ?_
    obtain ⟨c1, c2, c3, c4, c5⟩ := hC
    have e13 : a.tmps.getD 13 undef = .pointer (some ⟨bt, 0, none⟩) := hD.1
    have e31 : a.tmps.getD 31 undef = .agg (m2 P n (Z2.mul (Z2.add X.a X.c) (Z2.add Y.a Y.c))).toArray := hD.2.1
    have e32 : a.tmps.getD 32 undef = .agg (m2 P n p).toArray := hD.2.2.1
    clear hF hD
    exact wp_callV #[a.tmps.getD 13 undef, a.tmps.getD 31 undef, a.tmps.getD 32 undef] #[.pointer (some ⟨bt, 0, none⟩), .agg (m2 P n (Z2.mul (Z2.add X.a X.c) (Z2.add Y.a Y.c))).toArray, .agg (m2 P n p).toArray] (.agg (m2 P n (Z2.sub (Z2.mul (Z2.add X.a X.c) (Z2.add Y.a Y.c)) p)).toArray) (by kernel_rfl) (by rw [e13, e31, e32]) (xsub2 (Z2.mul (Z2.add X.a X.c) (Z2.add Y.a Y.c)) p c2 hI.out) (fun w' hb => hK _ _ rfl hb)
  · refine Obl.plain rfl _ rfl rfl [] (by kernel_rfl) fun a W hF hC hD K hK => ?_
    obtain ⟨c1, c2, c3, c4, c5⟩ := hC
    have e10 : a.tmps.getD 10 undef = .pointer (some ⟨b10, 0, none⟩) := hF.2.2.2.2.2.2.1
    clear hF hD
    exact wpLd 123 (.tmp 10) rfl (c1.vb 1 _ rfl) 0 e10 (m2 P n q) (part_all _ (m2_len P n _)) (m2_len P n _) Try.underlying123 rfl Try.szE2 (hK _ _ rfl (Below.refl _ _))
  · refine Obl.plain rfl _ rfl rfl [0, 21, 22, 21] (by kernel_rfl) fun a W hF hC hD K hK => ?_
    obtain ⟨c1, c2, c3, c4, c5⟩ := hC
    have e12 : a.tmps.getD 12 undef = .pointer (some ⟨bt, 0, none⟩) := hD.1
    have e33 : a.tmps.getD 33 undef = .agg (m2 P n (Z2.sub (Z2.mul (Z2.add X.a X.c) (Z2.add Y.a Y.c)) p)).toArray := hD.2.1
    have e34 : a.tmps.getD 34 undef = .agg (m2 P n q).toArray := hD.2.2.1
    clear hF hD
    exact wp_callV #[a.tmps.getD 12 undef, a.tmps.getD 33 undef, a.tmps.getD 34 undef] #[.pointer (some ⟨bt, 0, none⟩), .agg (m2 P n (Z2.sub (Z2.mul (Z2.add X.a X.c) (Z2.add Y.a Y.c)) p)).toArray, .agg (m2 P n q).toArray] (.agg (m2 P n (Z2.sub (Z2.sub (Z2.mul (Z2.add X.a X.c) (Z2.add Y.a Y.c)) p) q)).toArray) (by kernel_rfl) (by rw [e12, e33, e34]) (xsub2 (Z2.sub (Z2.mul (Z2.add X.a X.c) (Z2.add Y.a Y.c)) p) q c2 hI.out) (fun w' hb => hK _ _ rfl hb)
  rintro w1 hB hC _ rfl _ rfl _ rfl _ rfl _ rfl _ rfl _ rfl _ rfl _ rfl _ rfl _ rfl _ rfl _ rfl _ rfl _ rfl _ rfl _ rfl _ rfl _ rfl _ rfl _ rfl _ rfl _ rfl _ rfl
  change Below _ _ _ at hB
  change wpList _ _ _ _ _ _
  simp only [List.drop_succ_cons, List.drop_zero, Act.put, List.setIfInBounds_toArray, List.set_cons_zero, List.set_cons_succ]
  have hS1 := hide (hS0.out.next hB)
  clear hB hC hS0
  go_wp2_with ((with_reducible refine storeWS (n := 12) (o := ⟨none, _, _, _, _, _⟩) ?_ 123 (.tmp 11) (.tmp 35) ?_ hS1.out 2 (c := ⟨b11, 123, z0 12⟩) ?_ ?_ (m2 P n (Z2.sub (Z2.sub (Z2.mul (Z2.add X.a X.c) (Z2.add Y.a Y.c)) p) q)) ?_ ?_ ?_ ?_ Try.szE2 ?_); rfl; rfl; rfl; rfl; rfl; rfl; rfl; rfl; intro wz hZ hO)
  exact retS rfl hZ 2 (c := ⟨b11, 123, m2 P n (Z2.sub (Z2.sub (Z2.mul (Z2.add X.a X.c) (Z2.add Y.a Y.c)) p) q)⟩) rfl rfl Try.underlying123 rfl Try.szE2 rfl ⟨rfl, hZ.bl⟩

set_option maxRecDepth 100000 in
set_option maxHeartbeats 3200000 in
theorem xmul6 {bt bm P n : Nat} {N : Int} {fr : List Value} {w : World} (X Y : Z6) (hT : TB w bt bm P n N fr) (hI : InvOk P) :
    Calls Try.prog 91 #[.pointer (some ⟨bt, 0, none⟩), .agg (m6 P n X).toArray, .agg (m6 P n Y).toArray] w fun e w' => e = .returned (.agg (m6 P n (Z6.mul N X Y)).toArray) ∧ Below w.heap.size w w' := by
  have hT := hide hT
  have hI := hide hI
  go_enter Try.func91, Try.ntmps91
  have hq0 := hide (St.start w)
  go_upto_region 1 with (first
    | ((with_reducible refine boxP (o := ⟨some 3, _, _, _, _, _⟩) ?_ 128 (.tmp 0) ?_ hq0.out (some ⟨bt, 0, none⟩) ?_ ?_); rfl; rfl; rfl; intro wq1 b3 hS; have hq1 : Hid (St w wq1 [⟨b3, 128, [.pointer (some ⟨bt, 0, none⟩)]⟩]) := hide hS; clear hS)
    | ((with_reducible refine boxS (o := ⟨some 4, _, _, _, _, _⟩) ?_ 125 (.tmp 1) ?_ hq1.out (m6 P n X) ?_ ?_); rfl; rfl; rfl; intro wq2 b4 hS; have hq2 : Hid (St w wq2 [⟨b3, 128, [.pointer (some ⟨bt, 0, none⟩)]⟩, ⟨b4, 125, m6 P n X⟩]) := hide hS; clear hS)
    | ((with_reducible refine boxS (o := ⟨some 5, _, _, _, _, _⟩) ?_ 125 (.tmp 2) ?_ hq2.out (m6 P n Y) ?_ ?_); rfl; rfl; rfl; intro wq3 b5 hS; have hq3 : Hid (St w wq3 [⟨b3, 128, [.pointer (some ⟨bt, 0, none⟩)]⟩, ⟨b4, 125, m6 P n X⟩, ⟨b5, 125, m6 P n Y⟩]) := hide hS; clear hS)
    | ((with_reducible refine allocS (o := ⟨some 6, _, _, _, _, _⟩) ?_ 125 ?_ hq3.out (z0 36) Try.zrE6 ?_); rfl; rfl; intro wq4 b6 hS; have hq4 : Hid (St w wq4 [⟨b3, 128, [.pointer (some ⟨bt, 0, none⟩)]⟩, ⟨b4, 125, m6 P n X⟩, ⟨b5, 125, m6 P n Y⟩, ⟨b6, 125, z0 36⟩]) := hide hS; clear hS))
  have hS0 := hq4
  clear hq0 hq1 hq2 hq3 hq4
  go_upto_region 1 with fail
  refine region_loc 24 56 [fun v _ => v = .pointer (some ⟨bt, 0, none⟩), fun v _ => v = .pointer (some ⟨b4, 0, none⟩), fun v _ => v = .agg (m2 P n X.a).toArray, fun v _ => v = .pointer (some ⟨b5, 0, none⟩), fun v _ => v = .agg (m2 P n Y.a).toArray, fun v _ => v = .agg (m2 P n (Z2.mul X.a Y.a)).toArray, fun v _ => v = .pointer (some ⟨bt, 0, none⟩), fun v _ => v = .pointer (some ⟨b4, 12, none⟩), fun v _ => v = .agg (m2 P n X.b).toArray, fun v _ => v = .pointer (some ⟨b5, 12, none⟩), fun v _ => v = .agg (m2 P n Y.b).toArray, fun v _ => v = .agg (m2 P n (Z2.mul X.b Y.b)).toArray, fun v _ => v = .pointer (some ⟨bt, 0, none⟩), fun v _ => v = .pointer (some ⟨b4, 24, none⟩), fun v _ => v = .agg (m2 P n X.c).toArray, fun v _ => v = .pointer (some ⟨b5, 24, none⟩), fun v _ => v = .agg (m2 P n Y.c).toArray, fun v _ => v = .agg (m2 P n (Z2.mul X.c Y.c)).toArray, fun _ _ => True, fun _ _ => True, fun _ _ => True, fun _ _ => True, fun _ _ => True, fun _ _ => True]
    [(3, .pointer (some ⟨b3, 0, none⟩)), (4, .pointer (some ⟨b4, 0, none⟩)), (5, .pointer (some ⟨b5, 0, none⟩))] (fun w' => St w w' [⟨b3, 128, [.pointer (some ⟨bt, 0, none⟩)]⟩, ⟨b4, 125, m6 P n X⟩, ⟨b5, 125, m6 P n Y⟩, ⟨b6, 125, z0 36⟩] ∧ TB w' bt bm P n N fr) [18, 19, 20] 123 (z0 12) [(21, 18, m2 P n (Z2.mul X.a Y.a)), (22, 19, m2 P n (Z2.mul X.b Y.b)), (23, 20, m2 P n (Z2.mul X.c Y.c))] (by kernel_rfl) (by kernel_rfl) rfl rfl
    (.cons (factB_eq _) (.cons (factB_eq _) (.cons (factB_eq _) (.cons (factB_eq _) (.cons (factB_eq _) (.cons (factB_eq _) (.cons (factB_eq _) (.cons (factB_eq _) (.cons (factB_eq _) (.cons (factB_eq _) (.cons (factB_eq _) (.cons (factB_eq _) (.cons (factB_eq _) (.cons (factB_eq _) (.cons (factB_eq _) (.cons (factB_eq _) (.cons (factB_eq _) (.cons (factB_eq _) (.cons (fun _ _ _ _ _ _ => trivial) (.cons (fun _ _ _ _ _ _ => trivial) (.cons (fun _ _ _ _ _ _ => trivial) (.cons (fun _ _ _ _ _ _ => trivial) (.cons (fun _ _ _ _ _ _ => trivial) (.cons (fun _ _ _ _ _ _ => trivial) .nil)))))))))))))))))))))))) (by kernel_rfl) (fun w' h => ⟨hS0.out.next h, hT.out.next (hS0.out.next h).bl⟩) (by kernel_rfl) (by exact ⟨rfl, rfl, rfl, trivial⟩) (by kernel_rfl) (allC ⟨⟨_, _, rfl, rfl, rfl, rfl⟩⟩ (allC ⟨⟨_, _, rfl, rfl, rfl, rfl⟩⟩ (allC ⟨⟨_, _, rfl, rfl, rfl, rfl⟩⟩ allN))) (allC (fun _ _ => trivial) (allC (fun _ _ => trivial) (allC (fun _ _ => trivial) allN))) (by rfl) (allC ⟨⟨_, 7, 16, 5, rfl, rfl, rfl, rfl, rfl, rfl, by kernel_rfl, by kernel_rfl, fun v w h => h⟩⟩ (allC ⟨⟨_, 8, 22, 11, rfl, rfl, rfl, rfl, rfl, rfl, by kernel_rfl, by kernel_rfl, fun v w h => h⟩⟩ (allC ⟨⟨_, 9, 28, 17, rfl, rfl, rfl, rfl, rfl, rfl, by kernel_rfl, by kernel_rfl, fun v w h => h⟩⟩ allN))) (allC (fun _ _ => trivial) (allC (fun _ _ => trivial) (allC (fun _ _ => trivial) allN))) (show ([21, 22, 23] : List Nat).Nodup by decide) Try.zrE2 Try.szE2 (.cons (fun _ _ => ?_) (.cons (fun _ _ => ?_) (.cons (fun _ _ => ?_) (.cons (fun _ _ => ?_) (.cons (fun _ _ => ?_) (.cons (fun _ _ => ?_) (.cons (fun _ _ => ?_) (.cons (fun _ _ => ?_) (.cons (fun _ _ => ?_) (.cons (fun _ _ => ?_) (.cons (fun _ _ => ?_) (.cons (fun _ _ => ?_) (.cons (fun _ _ => ?_) (.cons (fun _ _ => ?_) (.cons (fun _ _ => ?_) (.cons (fun _ _ => ?_) (.cons (fun _ _ => ?_) (.cons (fun _ _ => ?_) (.cons (fun h _ => absurd h (by decide)) (.cons (fun h _ => absurd h (by decide)) (.cons (fun h _ => absurd h (by decide)) (.cons (fun _ h => absurd (show true = false from h) (by decide)) (.cons (fun _ h => absurd (show true = false from h) (by decide)) (.cons (fun _ h => absurd (show true = false from h) (by decide)) .nil)))))))))))))))))))))))) ?_
  · refine Obl.plain rfl _ rfl rfl [] (by kernel_rfl) fun a W hF hC hD K hK => ?_
    obtain ⟨c1, c2⟩ := hC
    have e3 : a.tmps.getD 3 undef = .pointer (some ⟨b3, 0, none⟩) := hF.1
    clear hF hD
    exact wp_ptr (.tmp 3) rfl e3 ((c1.vb 0 _ rfl).cell 0) Try.aggT (hK _ _ rfl (Below.refl _ _))
  · refine Obl.plain rfl _ rfl rfl [] (by kernel_rfl) fun a W hF hC hD K hK => ?_
    have e4 : a.tmps.getD 4 undef = .pointer (some ⟨b4, 0, none⟩) := hF.2.1
    clear hF hD hC
    exact wp_idx (.tmp 4) (.const (.int .i64 0)) rfl e4 0 rfl Try.underlying125 Try.szE2 (by decide) (hK _ _ rfl (Below.refl _ _))
  · refine Obl.plain rfl _ rfl rfl [1] (by kernel_rfl) fun a W hF hC hD K hK => ?_
    obtain ⟨c1, c2⟩ := hC
    have e12 : a.tmps.getD 12 undef = .pointer (some ⟨b4, 0, none⟩) := hD.1
    clear hF hD
    exact wpLd 123 (.tmp 12) rfl (c1.vb 1 _ rfl) 0 e12 (m2 P n X.a) (part0 _ _ (m2_len P n _)) (m2_len P n _) Try.underlying123 rfl Try.szE2 (hK _ _ rfl (Below.refl _ _))
  · refine Obl.plain rfl _ rfl rfl [] (by kernel_rfl) fun a W hF hC hD K hK => ?_
    have e5 : a.tmps.getD 5 undef = .pointer (some ⟨b5, 0, none⟩) := hF.2.2.1
    clear hF hD hC
    exact wp_idx (.tmp 5) (.const (.int .i64 0)) rfl e5 0 rfl Try.underlying125 Try.szE2 (by decide) (hK _ _ rfl (Below.refl _ _))
  · refine Obl.plain rfl _ rfl rfl [3] (by kernel_rfl) fun a W hF hC hD K hK => ?_
    obtain ⟨c1, c2⟩ := hC
    have e14 : a.tmps.getD 14 undef = .pointer (some ⟨b5, 0, none⟩) := hD.1
    clear hF hD
    exact wpLd 123 (.tmp 14) rfl (c1.vb 2 _ rfl) 0 e14 (m2 P n Y.a) (part0 _ _ (m2_len P n _)) (m2_len P n _) Try.underlying123 rfl Try.szE2 (hK _ _ rfl (Below.refl _ _))
  · refine Obl.plain rfl _ rfl rfl [0, 2, 4] (by kernel_rfl) fun a W hF hC hD K hK => ?_
    obtain ⟨c1, c2⟩ := hC
    have e11 : a.tmps.getD 11 undef = .pointer (some ⟨bt, 0, none⟩) := hD.1
    have e13 : a.tmps.getD 13 undef = .agg (m2 P n X.a).toArray := hD.2.1
    have e15 : a.tmps.getD 15 undef = .agg (m2 P n Y.a).toArray := hD.2.2.1
    clear hF hD
    exact wp_callV #[a.tmps.getD 11 undef, a.tmps.getD 13 undef, a.tmps.getD 15 undef] #[.pointer (some ⟨bt, 0, none⟩), .agg (m2 P n X.a).toArray, .agg (m2 P n Y.a).toArray] (.agg (m2 P n (Z2.mul X.a Y.a)).toArray) (by kernel_rfl) (by rw [e11, e13, e15]) (xmul2 X.a Y.a c2 hI.out) (fun w' hb => hK _ _ rfl hb)
  · refine Obl.plain rfl _ rfl rfl [] (by kernel_rfl) fun a W hF hC hD K hK => ?_
    obtain ⟨c1, c2⟩ := hC
    have e3 : a.tmps.getD 3 undef = .pointer (some ⟨b3, 0, none⟩) := hF.1
    clear hF hD
    exact wp_ptr (.tmp 3) rfl e3 ((c1.vb 0 _ rfl).cell 0) Try.aggT (hK _ _ rfl (Below.refl _ _))
  · refine Obl.plain rfl _ rfl rfl [] (by kernel_rfl) fun a W hF hC hD K hK => ?_
    have e4 : a.tmps.getD 4 undef = .pointer (some ⟨b4, 0, none⟩) := hF.2.1
    clear hF hD hC
    exact wp_idx (.tmp 4) (.const (.int .i64 1)) rfl e4 1 rfl Try.underlying125 Try.szE2 (by decide) (hK _ _ rfl (Below.refl _ _))
  · refine Obl.plain rfl _ rfl rfl [7] (by kernel_rfl) fun a W hF hC hD K hK => ?_
    obtain ⟨c1, c2⟩ := hC
    have e18 : a.tmps.getD 18 undef = .pointer (some ⟨b4, 12, none⟩) := hD.1
    clear hF hD
    exact wpLd 123 (.tmp 18) rfl (c1.vb 1 _ rfl) 12 e18 (m2 P n X.b) (part_mid _ _ _ (m2_len P n _) (m2_len P n _)) (m2_len P n _) Try.underlying123 rfl Try.szE2 (hK _ _ rfl (Below.refl _ _))
  · refine Obl.plain rfl _ rfl rfl [] (by kernel_rfl) fun a W hF hC hD K hK => ?_
    have e5 : a.tmps.getD 5 undef = .pointer (some ⟨b5, 0, none⟩) := hF.2.2.1
    clear hF hD hC
    exact wp_idx (.tmp 5) (.const (.int .i64 1)) rfl e5 1 rfl Try.underlying125 Try.szE2 (by decide) (hK _ _ rfl (Below.refl _ _))
  · refine Obl.plain rfl _ rfl rfl [9] (by kernel_rfl) fun a W hF hC hD K hK => ?_
    obtain ⟨c1, c2⟩ := hC
    have e20 : a.tmps.getD 20 undef = .pointer (some ⟨b5, 12, none⟩) := hD.1
    clear hF hD
    exact wpLd 123 (.tmp 20) rfl (c1.vb 2 _ rfl) 12 e20 (m2 P n Y.b) (part_mid _ _ _ (m2_len P n _) (m2_len P n _)) (m2_len P n _) Try.underlying123 rfl Try.szE2 (hK _ _ rfl (Below.refl _ _))
  · refine Obl.plain rfl _ rfl rfl [6, 8, 10, 5] (by kernel_rfl) fun a W hF hC hD K hK => ?_
    obtain ⟨c1, c2⟩ := hC
    have e17 : a.tmps.getD 17 undef = .pointer (some ⟨bt, 0, none⟩) := hD.1
    have e19 : a.tmps.getD 19 undef = .agg (m2 P n X.b).toArray := hD.2.1
    have e21 : a.tmps.getD 21 undef = .agg (m2 P n Y.b).toArray := hD.2.2.1
    clear hF hD
    exact wp_callV #[a.tmps.getD 17 undef, a.tmps.getD 19 undef, a.tmps.getD 21 undef] #[.pointer (some ⟨bt, 0, none⟩), .agg (m2 P n X.b).toArray, .agg (m2 P n Y.b).toArray] (.agg (m2 P n (Z2.mul X.b Y.b)).toArray) (by kernel_rfl) (by rw [e17, e19, e21]) (xmul2 X.b Y.b c2 hI.out) (fun w' hb => hK _ _ rfl hb)
  · refine Obl.plain rfl _ rfl rfl [] (by kernel_rfl) fun a W hF hC hD K hK => ?_
    obtain ⟨c1, c2⟩ := hC
    have e3 : a.tmps.getD 3 undef = .pointer (some ⟨b3, 0, none⟩) := hF.1
    clear hF hD
    exact wp_ptr (.tmp 3) rfl e3 ((c1.vb 0 _ rfl).cell 0) Try.aggT (hK _ _ rfl (Below.refl _ _))
  · refine Obl.plain rfl _ rfl rfl [] (by kernel_rfl) fun a W hF hC hD K hK => ?_
    have e4 : a.tmps.getD 4 undef = .pointer (some ⟨b4, 0, none⟩) := hF.2.1
    clear hF hD hC
    exact wp_idx (.tmp 4) (.const (.int .i64 2)) rfl e4 2 rfl Try.underlying125 Try.szE2 (by decide) (hK _ _ rfl (Below.refl _ _))
  · refine Obl.plain rfl _ rfl rfl [13] (by kernel_rfl) fun a W hF hC hD K hK => ?_
    obtain ⟨c1, c2⟩ := hC
    have e24 : a.tmps.getD 24 undef = .pointer (some ⟨b4, 24, none⟩) := hD.1
    clear hF hD
    exact wpLd 123 (.tmp 24) rfl (c1.vb 1 _ rfl) 24 e24 (m2 P n X.c) (part_end _ _ _ rfl (m2_len P n _)) (m2_len P n _) Try.underlying123 rfl Try.szE2 (hK _ _ rfl (Below.refl _ _))
  · refine Obl.plain rfl _ rfl rfl [] (by kernel_rfl) fun a W hF hC hD K hK => ?_
    have e5 : a.tmps.getD 5 undef = .pointer (some ⟨b5, 0, none⟩) := hF.2.2.1
    clear hF hD hC
    exact wp_idx (.tmp 5) (.const (.int .i64 2)) rfl e5 2 rfl Try.underlying125 Try.szE2 (by decide) (hK _ _ rfl (Below.refl _ _))
  · refine Obl.plain rfl _ rfl rfl [15] (by kernel_rfl) fun a W hF hC hD K hK => ?_
    obtain ⟨c1, c2⟩ := hC
    have e26 : a.tmps.getD 26 undef = .pointer (some ⟨b5, 24, none⟩) := hD.1
    clear hF hD
    exact wpLd 123 (.tmp 26) rfl (c1.vb 2 _ rfl) 24 e26 (m2 P n Y.c) (part_end _ _ _ rfl (m2_len P n _)) (m2_len P n _) Try.underlying123 rfl Try.szE2 (hK _ _ rfl (Below.refl _ _))
  · refine Obl.plain rfl _ rfl rfl [12, 14, 16, 11] (by kernel_rfl) fun a W hF hC hD K hK => ?_
    obtain ⟨c1, c2⟩ := hC
    have e23 : a.tmps.getD 23 undef = .pointer (some ⟨bt, 0, none⟩) := hD.1
    have e25 : a.tmps.getD 25 undef = .agg (m2 P n X.c).toArray := hD.2.1
    have e27 : a.tmps.getD 27 undef = .agg (m2 P n Y.c).toArray := hD.2.2.1
    clear hF hD
    exact wp_callV #[a.tmps.getD 23 undef, a.tmps.getD 25 undef, a.tmps.getD 27 undef] #[.pointer (some ⟨bt, 0, none⟩), .agg (m2 P n X.c).toArray, .agg (m2 P n Y.c).toArray] (.agg (m2 P n (Z2.mul X.c Y.c)).toArray) (by kernel_rfl) (by rw [e23, e25, e27]) (xmul2 X.c Y.c c2 hI.out) (fun w' hb => hK _ _ rfl hb)
  rintro w1 bs hB hC hAl hDl hSl _ rfl _ rfl _ rfl _ rfl _ rfl _ rfl _ rfl _ rfl _ rfl _ rfl _ rfl _ rfl _ rfl _ rfl _ rfl _ rfl _ rfl _ rfl _ rfl _ rfl _ rfl _ - _ - _ -
  obtain ⟨hlb7, Lb7, hvb7, hnb7⟩ := hAl 18 (by decide)
  obtain ⟨hlb8, Lb8, hvb8, hnb8⟩ := hAl 19 (by decide)
  obtain ⟨hlb9, Lb9, hvb9, hnb9⟩ := hAl 20 (by decide)
  have hdb7b8 := hDl 18 19 (by decide) (by decide) (by decide)
  have hdb7b9 := hDl 18 20 (by decide) (by decide) (by decide)
  have hdb8b9 := hDl 19 20 (by decide) (by decide) (by decide)
  have hsb7 := hSl _ (.head _)
  have hsb8 := hSl _ (.tail _ (.head _))
  have hsb9 := hSl _ (.tail _ (.tail _ (.head _)))
  clear hAl hDl hSl
  change _ ≤ bs 18 at hlb7
  change _ ≤ bs 19 at hlb8
  change _ ≤ bs 20 at hlb9
  change VB _ (bs 18) _ _ at hsb7
  change VB _ (bs 19) _ _ at hsb8
  change VB _ (bs 20) _ _ at hsb9
  change wpList _ _ _ _ _ _
  simp only [List.drop_succ_cons, List.drop_zero, Act.put, List.setIfInBounds_toArray, List.set_cons_zero, List.set_cons_succ]
  generalize bs 18 = b7 at *
  generalize bs 19 = b8 at *
  generalize bs 20 = b9 at *
  clear bs
  have hS1 : Hid (St w w1 [⟨b3, 128, [.pointer (some ⟨bt, 0, none⟩)]⟩, ⟨b4, 125, m6 P n X⟩, ⟨b5, 125, m6 P n Y⟩, ⟨b6, 125, z0 36⟩, ⟨b7, 123, m2 P n (Z2.mul X.a Y.a)⟩, ⟨b8, 123, m2 P n (Z2.mul X.b Y.b)⟩, ⟨b9, 123, m2 P n (Z2.mul X.c Y.c)⟩]) := hide (hS0.out.pushL hB [⟨b7, 123, m2 P n (Z2.mul X.a Y.a)⟩, ⟨b8, 123, m2 P n (Z2.mul X.b Y.b)⟩, ⟨b9, 123, m2 P n (Z2.mul X.c Y.c)⟩] ⟨hlb7, hsb7, (fun d hd => by simp at hd; rcases hd with rfl | rfl; exact hdb7b8; exact hdb7b9), hlb8, hsb8, (fun d hd => by simp at hd; subst hd; exact hdb8b9), hlb9, hsb9, (fun d hd => by cases hd), trivial⟩)
  clear hB hC hS0 hlb7 hsb7 hvb7 hnb7 hlb8 hsb8 hvb8 hnb8 hlb9 hsb9 hvb9 hnb9 hdb7b8 hdb7b9 hdb8b9
  have hmf : ∀ (fn : Fn) (first cap : Array Value) (w : World), (Instr.makeFunc fn first cap).run Try.prog w = .ok (.func fn first cap) w := fun _ _ _ _ => rfl
  go_upto_region 3 with fail
  refine region_do 26 56 [fun v _ => v = .pointer (some ⟨bt, 0, none⟩), fun v _ => v = .agg (m2 P n (Z2.mul X.a Y.a)).toArray, fun v _ => v = .pointer (some ⟨bt, 0, none⟩), fun v _ => v = .func (.func 133) #[] #[.pointer (some ⟨b3, 0, none⟩), .pointer (some ⟨b4, 0, none⟩), .pointer (some ⟨b5, 0, none⟩)], fun v _ => v = .agg (m2 P n (Z2.mul X.b Y.b)).toArray, fun v _ => v = .agg (m2 P n (Z2.mul X.c Y.c)).toArray, fun v _ => v = .agg (m2 P n (Z6.crs X.b X.c Y.b Y.c (Z2.mul X.b Y.b) (Z2.mul X.c Y.c))).toArray, fun v _ => v = .agg (m2 P n (Z2.up N (Z6.crs X.b X.c Y.b Y.c (Z2.mul X.b Y.b) (Z2.mul X.c Y.c)))).toArray, fun v _ => v = .agg (m2 P n (Z2.add (Z2.mul X.a Y.a) (Z2.up N (Z6.crs X.b X.c Y.b Y.c (Z2.mul X.b Y.b) (Z2.mul X.c Y.c))))).toArray, fun v _ => v = .pointer (some ⟨bt, 0, none⟩), fun v _ => v = .func (.func 133) #[] #[.pointer (some ⟨b3, 0, none⟩), .pointer (some ⟨b4, 0, none⟩), .pointer (some ⟨b5, 0, none⟩)], fun v _ => v = .agg (m2 P n (Z2.mul X.a Y.a)).toArray, fun v _ => v = .agg (m2 P n (Z2.mul X.b Y.b)).toArray, fun v _ => v = .agg (m2 P n (Z6.crs X.a X.b Y.a Y.b (Z2.mul X.a Y.a) (Z2.mul X.b Y.b))).toArray, fun v _ => v = .pointer (some ⟨bt, 0, none⟩), fun v _ => v = .agg (m2 P n (Z2.mul X.c Y.c)).toArray, fun v _ => v = .agg (m2 P n (Z2.up N (Z2.mul X.c Y.c))).toArray, fun v _ => v = .agg (m2 P n (Z2.add (Z6.crs X.a X.b Y.a Y.b (Z2.mul X.a Y.a) (Z2.mul X.b Y.b)) (Z2.up N (Z2.mul X.c Y.c)))).toArray, fun v _ => v = .pointer (some ⟨bt, 0, none⟩), fun v _ => v = .func (.func 133) #[] #[.pointer (some ⟨b3, 0, none⟩), .pointer (some ⟨b4, 0, none⟩), .pointer (some ⟨b5, 0, none⟩)], fun v _ => v = .agg (m2 P n (Z2.mul X.a Y.a)).toArray, fun v _ => v = .agg (m2 P n (Z2.mul X.c Y.c)).toArray, fun v _ => v = .agg (m2 P n (Z6.crs X.a X.c Y.a Y.c (Z2.mul X.a Y.a) (Z2.mul X.c Y.c))).toArray, fun v _ => v = .agg (m2 P n (Z2.mul X.b Y.b)).toArray, fun v _ => v = .agg (m2 P n (Z2.add (Z6.crs X.a X.c Y.a Y.c (Z2.mul X.a Y.a) (Z2.mul X.c Y.c)) (Z2.mul X.b Y.b))).toArray, fun v _ => v = .agg (m6 P n (⟨Z2.add (Z2.mul X.a Y.a) (Z2.up N (Z6.crs X.b X.c Y.b Y.c (Z2.mul X.b Y.b) (Z2.mul X.c Y.c))), Z2.add (Z6.crs X.a X.b Y.a Y.b (Z2.mul X.a Y.a) (Z2.mul X.b Y.b)) (Z2.up N (Z2.mul X.c Y.c)), Z2.add (Z6.crs X.a X.c Y.a Y.c (Z2.mul X.a Y.a) (Z2.mul X.c Y.c)) (Z2.mul X.b Y.b)⟩)).toArray]
    [(3, .pointer (some ⟨b3, 0, none⟩)), (7, .pointer (some ⟨b7, 0, none⟩)), (10, .func (.func 133) #[] #[.pointer (some ⟨b3, 0, none⟩), .pointer (some ⟨b4, 0, none⟩), .pointer (some ⟨b5, 0, none⟩)]), (8, .pointer (some ⟨b8, 0, none⟩)), (9, .pointer (some ⟨b9, 0, none⟩))] (fun w' => St w w' [⟨b3, 128, [.pointer (some ⟨bt, 0, none⟩)]⟩, ⟨b4, 125, m6 P n X⟩, ⟨b5, 125, m6 P n Y⟩, ⟨b6, 125, z0 36⟩, ⟨b7, 123, m2 P n (Z2.mul X.a Y.a)⟩, ⟨b8, 123, m2 P n (Z2.mul X.b Y.b)⟩, ⟨b9, 123, m2 P n (Z2.mul X.c Y.c)⟩] ∧ TB w' bt bm P n N fr) (fun w' => True) 999 none (by kernel_rfl) (by kernel_rfl) rfl rfl
    (.cons (Fact.eq _) rfl (.cons (Fact.eq _) rfl (.cons (Fact.eq _) rfl (.cons (Fact.eq _) rfl (.cons (Fact.eq _) rfl (.cons (Fact.eq _) rfl (.cons (Fact.eq _) rfl (.cons (Fact.eq _) rfl (.cons (Fact.eq _) rfl (.cons (Fact.eq _) rfl (.cons (Fact.eq _) rfl (.cons (Fact.eq _) rfl (.cons (Fact.eq _) rfl (.cons (Fact.eq _) rfl (.cons (Fact.eq _) rfl (.cons (Fact.eq _) rfl (.cons (Fact.eq _) rfl (.cons (Fact.eq _) rfl (.cons (Fact.eq _) rfl (.cons (Fact.eq _) rfl (.cons (Fact.eq _) rfl (.cons (Fact.eq _) rfl (.cons (Fact.eq _) rfl (.cons (Fact.eq _) rfl (.cons (Fact.eq _) rfl (.cons (Fact.eq _) rfl (.nil _))))))))))))))))))))))))))) (fun w' h => ⟨hS1.out.next h, hT.out.next (hS1.out.next h).bl⟩) (fun w' h => trivial) (by kernel_rfl) (by exact ⟨rfl, rfl, rfl, rfl, rfl, trivial⟩) (.cons ?_ (.cons ?_ (.cons ?_ (.cons ?_ (.cons ?_ (.cons ?_ (.cons ?_ (.cons ?_ (.cons ?_ (.cons ?_ (.cons ?_ (.cons ?_ (.cons ?_ (.cons ?_ (.cons ?_ (.cons ?_ (.cons ?_ (.cons ?_ (.cons ?_ (.cons ?_ (.cons ?_ (.cons ?_ (.cons ?_ (.cons ?_ (.cons ?_ (.cons ?_ .nil)))))))))))))))))))))))))) ?_
  · refine Obl.plain rfl _ rfl rfl [] (by kernel_rfl) fun a W hF hC hD K hK => ?_
    obtain ⟨c1, c2⟩ := hC
    have e3 : a.tmps.getD 3 undef = .pointer (some ⟨b3, 0, none⟩) := hF.1
    clear hF hD
    exact wp_ptr (.tmp 3) rfl e3 ((c1.vb 0 _ rfl).cell 0) Try.aggT (hK _ _ rfl (Below.refl _ _))
  · refine Obl.plain rfl _ rfl rfl [] (by kernel_rfl) fun a W hF hC hD K hK => ?_
    obtain ⟨c1, c2⟩ := hC
    have e7 : a.tmps.getD 7 undef = .pointer (some ⟨b7, 0, none⟩) := hF.2.1
    clear hF hD
    exact wpLd 123 (.tmp 7) rfl (c1.vb 4 _ rfl) 0 e7 (m2 P n (Z2.mul X.a Y.a)) (part_all _ (m2_len P n _)) (m2_len P n _) Try.underlying123 rfl Try.szE2 (hK _ _ rfl (Below.refl _ _))
  · refine Obl.plain rfl _ rfl rfl [] (by kernel_rfl) fun a W hF hC hD K hK => ?_
    obtain ⟨c1, c2⟩ := hC
    have e3 : a.tmps.getD 3 undef = .pointer (some ⟨b3, 0, none⟩) := hF.1
    clear hF hD
    exact wp_ptr (.tmp 3) rfl e3 ((c1.vb 0 _ rfl).cell 0) Try.aggT (hK _ _ rfl (Below.refl _ _))
  · refine Obl.plain rfl _ rfl rfl [] (by kernel_rfl) fun a W hF hC hD K hK => ?_
    have e10 : a.tmps.getD 10 undef = .func (.func 133) #[] #[.pointer (some ⟨b3, 0, none⟩), .pointer (some ⟨b4, 0, none⟩), .pointer (some ⟨b5, 0, none⟩)] := hF.2.2.1
    clear hF hD hC
    exact wp_move (.tmp 10) rfl e10 (hK _ _ rfl (Below.refl _ _))
  · refine Obl.plain rfl _ rfl rfl [] (by kernel_rfl) fun a W hF hC hD K hK => ?_
    obtain ⟨c1, c2⟩ := hC
    have e8 : a.tmps.getD 8 undef = .pointer (some ⟨b8, 0, none⟩) := hF.2.2.2.1
    clear hF hD
    exact wpLd 123 (.tmp 8) rfl (c1.vb 5 _ rfl) 0 e8 (m2 P n (Z2.mul X.b Y.b)) (part_all _ (m2_len P n _)) (m2_len P n _) Try.underlying123 rfl Try.szE2 (hK _ _ rfl (Below.refl _ _))
  · refine Obl.plain rfl _ rfl rfl [] (by kernel_rfl) fun a W hF hC hD K hK => ?_
    obtain ⟨c1, c2⟩ := hC
    have e9 : a.tmps.getD 9 undef = .pointer (some ⟨b9, 0, none⟩) := hF.2.2.2.2.1
    clear hF hD
    exact wpLd 123 (.tmp 9) rfl (c1.vb 6 _ rfl) 0 e9 (m2 P n (Z2.mul X.c Y.c)) (part_all _ (m2_len P n _)) (m2_len P n _) Try.underlying123 rfl Try.szE2 (hK _ _ rfl (Below.refl _ _))
  · refine Obl.plain rfl _ rfl rfl [3, 4, 5] (by kernel_rfl) fun a W hF hC hD K hK => ?_
    obtain ⟨c1, c2⟩ := hC
    have e33 : a.tmps.getD 33 undef = .func (.func 133) #[] #[.pointer (some ⟨b3, 0, none⟩), .pointer (some ⟨b4, 0, none⟩), .pointer (some ⟨b5, 0, none⟩)] := hD.1
    have e34 : a.tmps.getD 34 undef = .agg (m2 P n (Z2.mul X.b Y.b)).toArray := hD.2.1
    have e35 : a.tmps.getD 35 undef = .agg (m2 P n (Z2.mul X.c Y.c)).toArray := hD.2.2.1
    clear hF hD
    exact wp_callF #[.int .i64 1, .int .i64 2, .agg (m2 P n (Z2.mul X.b Y.b)).toArray, .agg (m2 P n (Z2.mul X.c Y.c)).toArray] #[.pointer (some ⟨b3, 0, none⟩), .pointer (some ⟨b4, 0, none⟩), .pointer (some ⟨b5, 0, none⟩)] (.agg (m2 P n (Z6.crs X.b X.c Y.b Y.c (Z2.mul X.b Y.b) (Z2.mul X.c Y.c))).toArray) rfl e33 (by simp [Act.eval, e34, e35]) Try.call133 (xcr12 X Y (Z2.mul X.b Y.b) (Z2.mul X.c Y.c) c2 hI.out (c1.vb 0 _ rfl) (c1.vb 1 _ rfl) (c1.vb 2 _ rfl)) (fun w' hb => hK _ _ rfl hb)
  · refine Obl.plain rfl _ rfl rfl [2, 6, 6] (by kernel_rfl) fun a W hF hC hD K hK => ?_
    obtain ⟨c1, c2⟩ := hC
    have e32 : a.tmps.getD 32 undef = .pointer (some ⟨bt, 0, none⟩) := hD.1
    have e36 : a.tmps.getD 36 undef = .agg (m2 P n (Z6.crs X.b X.c Y.b Y.c (Z2.mul X.b Y.b) (Z2.mul X.c Y.c))).toArray := hD.2.1
    clear hF hD
    exact wp_callV #[a.tmps.getD 32 undef, a.tmps.getD 36 undef] #[.pointer (some ⟨bt, 0, none⟩), .agg (m2 P n (Z6.crs X.b X.c Y.b Y.c (Z2.mul X.b Y.b) (Z2.mul X.c Y.c))).toArray] (.agg (m2 P n (Z2.up N (Z6.crs X.b X.c Y.b Y.c (Z2.mul X.b Y.b) (Z2.mul X.c Y.c)))).toArray) (by kernel_rfl) (by rw [e32, e36]) (xup2 (Z6.crs X.b X.c Y.b Y.c (Z2.mul X.b Y.b) (Z2.mul X.c Y.c)) c2 hI.out) (fun w' hb => hK _ _ rfl hb)
  · refine Obl.plain rfl _ rfl rfl [0, 1, 7, 7] (by kernel_rfl) fun a W hF hC hD K hK => ?_
    obtain ⟨c1, c2⟩ := hC
    have e30 : a.tmps.getD 30 undef = .pointer (some ⟨bt, 0, none⟩) := hD.1
    have e31 : a.tmps.getD 31 undef = .agg (m2 P n (Z2.mul X.a Y.a)).toArray := hD.2.1
    have e37 : a.tmps.getD 37 undef = .agg (m2 P n (Z2.up N (Z6.crs X.b X.c Y.b Y.c (Z2.mul X.b Y.b) (Z2.mul X.c Y.c)))).toArray := hD.2.2.1
    clear hF hD
    exact wp_callV #[a.tmps.getD 30 undef, a.tmps.getD 31 undef, a.tmps.getD 37 undef] #[.pointer (some ⟨bt, 0, none⟩), .agg (m2 P n (Z2.mul X.a Y.a)).toArray, .agg (m2 P n (Z2.up N (Z6.crs X.b X.c Y.b Y.c (Z2.mul X.b Y.b) (Z2.mul X.c Y.c)))).toArray] (.agg (m2 P n (Z2.add (Z2.mul X.a Y.a) (Z2.up N (Z6.crs X.b X.c Y.b Y.c (Z2.mul X.b Y.b) (Z2.mul X.c Y.c))))).toArray) (by kernel_rfl) (by rw [e30, e31, e37]) (xadd2 (Z2.mul X.a Y.a) (Z2.up N (Z6.crs X.b X.c Y.b Y.c (Z2.mul X.b Y.b) (Z2.mul X.c Y.c))) c2 hI.out) (fun w' hb => hK _ _ rfl hb)
  · refine Obl.plain rfl _ rfl rfl [] (by kernel_rfl) fun a W hF hC hD K hK => ?_
    obtain ⟨c1, c2⟩ := hC
    have e3 : a.tmps.getD 3 undef = .pointer (some ⟨b3, 0, none⟩) := hF.1
    clear hF hD
    exact wp_ptr (.tmp 3) rfl e3 ((c1.vb 0 _ rfl).cell 0) Try.aggT (hK _ _ rfl (Below.refl _ _))
  · refine Obl.plain rfl _ rfl rfl [] (by kernel_rfl) fun a W hF hC hD K hK => ?_
    have e10 : a.tmps.getD 10 undef = .func (.func 133) #[] #[.pointer (some ⟨b3, 0, none⟩), .pointer (some ⟨b4, 0, none⟩), .pointer (some ⟨b5, 0, none⟩)] := hF.2.2.1
    clear hF hD hC
    exact wp_move (.tmp 10) rfl e10 (hK _ _ rfl (Below.refl _ _))
  · refine Obl.plain rfl _ rfl rfl [] (by kernel_rfl) fun a W hF hC hD K hK => ?_
    obtain ⟨c1, c2⟩ := hC
    have e7 : a.tmps.getD 7 undef = .pointer (some ⟨b7, 0, none⟩) := hF.2.1
    clear hF hD
    exact wpLd 123 (.tmp 7) rfl (c1.vb 4 _ rfl) 0 e7 (m2 P n (Z2.mul X.a Y.a)) (part_all _ (m2_len P n _)) (m2_len P n _) Try.underlying123 rfl Try.szE2 (hK _ _ rfl (Below.refl _ _))
  · refine Obl.plain rfl _ rfl rfl [] (by kernel_rfl) fun a W hF hC hD K hK => ?_
    obtain ⟨c1, c2⟩ := hC
    have e8 : a.tmps.getD 8 undef = .pointer (some ⟨b8, 0, none⟩) := hF.2.2.2.1
    clear hF hD
    exact wpLd 123 (.tmp 8) rfl (c1.vb 5 _ rfl) 0 e8 (m2 P n (Z2.mul X.b Y.b)) (part_all _ (m2_len P n _)) (m2_len P n _) Try.underlying123 rfl Try.szE2 (hK _ _ rfl (Below.refl _ _))
  · refine Obl.plain rfl _ rfl rfl [10, 11, 12, 8] (by kernel_rfl) fun a W hF hC hD K hK => ?_
    obtain ⟨c1, c2⟩ := hC
    have e40 : a.tmps.getD 40 undef = .func (.func 133) #[] #[.pointer (some ⟨b3, 0, none⟩), .pointer (some ⟨b4, 0, none⟩), .pointer (some ⟨b5, 0, none⟩)] := hD.1
    have e41 : a.tmps.getD 41 undef = .agg (m2 P n (Z2.mul X.a Y.a)).toArray := hD.2.1
    have e42 : a.tmps.getD 42 undef = .agg (m2 P n (Z2.mul X.b Y.b)).toArray := hD.2.2.1
    clear hF hD
    exact wp_callF #[.int .i64 0, .int .i64 1, .agg (m2 P n (Z2.mul X.a Y.a)).toArray, .agg (m2 P n (Z2.mul X.b Y.b)).toArray] #[.pointer (some ⟨b3, 0, none⟩), .pointer (some ⟨b4, 0, none⟩), .pointer (some ⟨b5, 0, none⟩)] (.agg (m2 P n (Z6.crs X.a X.b Y.a Y.b (Z2.mul X.a Y.a) (Z2.mul X.b Y.b))).toArray) rfl e40 (by simp [Act.eval, e41, e42]) Try.call133 (xcr01 X Y (Z2.mul X.a Y.a) (Z2.mul X.b Y.b) c2 hI.out (c1.vb 0 _ rfl) (c1.vb 1 _ rfl) (c1.vb 2 _ rfl)) (fun w' hb => hK _ _ rfl hb)
  · refine Obl.plain rfl _ rfl rfl [] (by kernel_rfl) fun a W hF hC hD K hK => ?_
    obtain ⟨c1, c2⟩ := hC
    have e3 : a.tmps.getD 3 undef = .pointer (some ⟨b3, 0, none⟩) := hF.1
    clear hF hD
    exact wp_ptr (.tmp 3) rfl e3 ((c1.vb 0 _ rfl).cell 0) Try.aggT (hK _ _ rfl (Below.refl _ _))
  · refine Obl.plain rfl _ rfl rfl [] (by kernel_rfl) fun a W hF hC hD K hK => ?_
    obtain ⟨c1, c2⟩ := hC
    have e9 : a.tmps.getD 9 undef = .pointer (some ⟨b9, 0, none⟩) := hF.2.2.2.2.1
    clear hF hD
    exact wpLd 123 (.tmp 9) rfl (c1.vb 6 _ rfl) 0 e9 (m2 P n (Z2.mul X.c Y.c)) (part_all _ (m2_len P n _)) (m2_len P n _) Try.underlying123 rfl Try.szE2 (hK _ _ rfl (Below.refl _ _))
  · refine Obl.plain rfl _ rfl rfl [14, 15, 13] (by kernel_rfl) fun a W hF hC hD K hK => ?_
    obtain ⟨c1, c2⟩ := hC
    have e44 : a.tmps.getD 44 undef = .pointer (some ⟨bt, 0, none⟩) := hD.1
    have e45 : a.tmps.getD 45 undef = .agg (m2 P n (Z2.mul X.c Y.c)).toArray := hD.2.1
    clear hF hD
    exact wp_callV #[a.tmps.getD 44 undef, a.tmps.getD 45 undef] #[.pointer (some ⟨bt, 0, none⟩), .agg (m2 P n (Z2.mul X.c Y.c)).toArray] (.agg (m2 P n (Z2.up N (Z2.mul X.c Y.c))).toArray) (by kernel_rfl) (by rw [e44, e45]) (xup2 (Z2.mul X.c Y.c) c2 hI.out) (fun w' hb => hK _ _ rfl hb)
  · refine Obl.plain rfl _ rfl rfl [9, 13, 16, 16] (by kernel_rfl) fun a W hF hC hD K hK => ?_
    obtain ⟨c1, c2⟩ := hC
    have e39 : a.tmps.getD 39 undef = .pointer (some ⟨bt, 0, none⟩) := hD.1
    have e43 : a.tmps.getD 43 undef = .agg (m2 P n (Z6.crs X.a X.b Y.a Y.b (Z2.mul X.a Y.a) (Z2.mul X.b Y.b))).toArray := hD.2.1
    have e46 : a.tmps.getD 46 undef = .agg (m2 P n (Z2.up N (Z2.mul X.c Y.c))).toArray := hD.2.2.1
    clear hF hD
    exact wp_callV #[a.tmps.getD 39 undef, a.tmps.getD 43 undef, a.tmps.getD 46 undef] #[.pointer (some ⟨bt, 0, none⟩), .agg (m2 P n (Z6.crs X.a X.b Y.a Y.b (Z2.mul X.a Y.a) (Z2.mul X.b Y.b))).toArray, .agg (m2 P n (Z2.up N (Z2.mul X.c Y.c))).toArray] (.agg (m2 P n (Z2.add (Z6.crs X.a X.b Y.a Y.b (Z2.mul X.a Y.a) (Z2.mul X.b Y.b)) (Z2.up N (Z2.mul X.c Y.c)))).toArray) (by kernel_rfl) (by rw [e39, e43, e46]) (xadd2 (Z6.crs X.a X.b Y.a Y.b (Z2.mul X.a Y.a) (Z2.mul X.b Y.b)) (Z2.up N (Z2.mul X.c Y.c)) c2 hI.out) (fun w' hb => hK _ _ rfl hb)
  · refine Obl.plain rfl _ rfl rfl [] (by kernel_rfl) fun a W hF hC hD K hK => ?_
    obtain ⟨c1, c2⟩ := hC
    have e3 : a.tmps.getD 3 undef = .pointer (some ⟨b3, 0, none⟩) := hF.1
    clear hF hD
    exact wp_ptr (.tmp 3) rfl e3 ((c1.vb 0 _ rfl).cell 0) Try.aggT (hK _ _ rfl (Below.refl _ _))
  · refine Obl.plain rfl _ rfl rfl [] (by kernel_rfl) fun a W hF hC hD K hK => ?_
    have e10 : a.tmps.getD 10 undef = .func (.func 133) #[] #[.pointer (some ⟨b3, 0, none⟩), .pointer (some ⟨b4, 0, none⟩), .pointer (some ⟨b5, 0, none⟩)] := hF.2.2.1
    clear hF hD hC
    exact wp_move (.tmp 10) rfl e10 (hK _ _ rfl (Below.refl _ _))
  · refine Obl.plain rfl _ rfl rfl [] (by kernel_rfl) fun a W hF hC hD K hK => ?_
    obtain ⟨c1, c2⟩ := hC
    have e7 : a.tmps.getD 7 undef = .pointer (some ⟨b7, 0, none⟩) := hF.2.1
    clear hF hD
    exact wpLd 123 (.tmp 7) rfl (c1.vb 4 _ rfl) 0 e7 (m2 P n (Z2.mul X.a Y.a)) (part_all _ (m2_len P n _)) (m2_len P n _) Try.underlying123 rfl Try.szE2 (hK _ _ rfl (Below.refl _ _))
  · refine Obl.plain rfl _ rfl rfl [] (by kernel_rfl) fun a W hF hC hD K hK => ?_
    obtain ⟨c1, c2⟩ := hC
    have e9 : a.tmps.getD 9 undef = .pointer (some ⟨b9, 0, none⟩) := hF.2.2.2.2.1
    clear hF hD
    exact wpLd 123 (.tmp 9) rfl (c1.vb 6 _ rfl) 0 e9 (m2 P n (Z2.mul X.c Y.c)) (part_all _ (m2_len P n _)) (m2_len P n _) Try.underlying123 rfl Try.szE2 (hK _ _ rfl (Below.refl _ _))
  · refine Obl.plain rfl _ rfl rfl [19, 20, 21, 17] (by kernel_rfl) fun a W hF hC hD K hK => ?_
    obtain ⟨c1, c2⟩ := hC
    have e49 : a.tmps.getD 49 undef = .func (.func 133) #[] #[.pointer (some ⟨b3, 0, none⟩), .pointer (some ⟨b4, 0, none⟩), .pointer (some ⟨b5, 0, none⟩)] := hD.1
    have e50 : a.tmps.getD 50 undef = .agg (m2 P n (Z2.mul X.a Y.a)).toArray := hD.2.1
    have e51 : a.tmps.getD 51 undef = .agg (m2 P n (Z2.mul X.c Y.c)).toArray := hD.2.2.1
    clear hF hD
    exact wp_callF #[.int .i64 0, .int .i64 2, .agg (m2 P n (Z2.mul X.a Y.a)).toArray, .agg (m2 P n (Z2.mul X.c Y.c)).toArray] #[.pointer (some ⟨b3, 0, none⟩), .pointer (some ⟨b4, 0, none⟩), .pointer (some ⟨b5, 0, none⟩)] (.agg (m2 P n (Z6.crs X.a X.c Y.a Y.c (Z2.mul X.a Y.a) (Z2.mul X.c Y.c))).toArray) rfl e49 (by simp [Act.eval, e50, e51]) Try.call133 (xcr02 X Y (Z2.mul X.a Y.a) (Z2.mul X.c Y.c) c2 hI.out (c1.vb 0 _ rfl) (c1.vb 1 _ rfl) (c1.vb 2 _ rfl)) (fun w' hb => hK _ _ rfl hb)
  · refine Obl.plain rfl _ rfl rfl [] (by kernel_rfl) fun a W hF hC hD K hK => ?_
    obtain ⟨c1, c2⟩ := hC
    have e8 : a.tmps.getD 8 undef = .pointer (some ⟨b8, 0, none⟩) := hF.2.2.2.1
    clear hF hD
    exact wpLd 123 (.tmp 8) rfl (c1.vb 5 _ rfl) 0 e8 (m2 P n (Z2.mul X.b Y.b)) (part_all _ (m2_len P n _)) (m2_len P n _) Try.underlying123 rfl Try.szE2 (hK _ _ rfl (Below.refl _ _))
  · refine Obl.plain rfl _ rfl rfl [18, 22, 23, 22] (by kernel_rfl) fun a W hF hC hD K hK => ?_
    obtain ⟨c1, c2⟩ := hC
    have e48 : a.tmps.getD 48 undef = .pointer (some ⟨bt, 0, none⟩) := hD.1
    have e52 : a.tmps.getD 52 undef = .agg (m2 P n (Z6.crs X.a X.c Y.a Y.c (Z2.mul X.a Y.a) (Z2.mul X.c Y.c))).toArray := hD.2.1
    have e53 : a.tmps.getD 53 undef = .agg (m2 P n (Z2.mul X.b Y.b)).toArray := hD.2.2.1
    clear hF hD
    exact wp_callV #[a.tmps.getD 48 undef, a.tmps.getD 52 undef, a.tmps.getD 53 undef] #[.pointer (some ⟨bt, 0, none⟩), .agg (m2 P n (Z6.crs X.a X.c Y.a Y.c (Z2.mul X.a Y.a) (Z2.mul X.c Y.c))).toArray, .agg (m2 P n (Z2.mul X.b Y.b)).toArray] (.agg (m2 P n (Z2.add (Z6.crs X.a X.c Y.a Y.c (Z2.mul X.a Y.a) (Z2.mul X.c Y.c)) (Z2.mul X.b Y.b))).toArray) (by kernel_rfl) (by rw [e48, e52, e53]) (xadd2 (Z6.crs X.a X.c Y.a Y.c (Z2.mul X.a Y.a) (Z2.mul X.c Y.c)) (Z2.mul X.b Y.b) c2 hI.out) (fun w' hb => hK _ _ rfl hb)
  · refine Obl.plain rfl _ rfl rfl [8, 17, 24] (by kernel_rfl) fun a W hF hC hD K hK => ?_
    have e38 : a.tmps.getD 38 undef = .agg (m2 P n (Z2.add (Z2.mul X.a Y.a) (Z2.up N (Z6.crs X.b X.c Y.b Y.c (Z2.mul X.b Y.b) (Z2.mul X.c Y.c))))).toArray := hD.1
    have e47 : a.tmps.getD 47 undef = .agg (m2 P n (Z2.add (Z6.crs X.a X.b Y.a Y.b (Z2.mul X.a Y.a) (Z2.mul X.b Y.b)) (Z2.up N (Z2.mul X.c Y.c)))).toArray := hD.2.1
    have e54 : a.tmps.getD 54 undef = .agg (m2 P n (Z2.add (Z6.crs X.a X.c Y.a Y.c (Z2.mul X.a Y.a) (Z2.mul X.c Y.c)) (Z2.mul X.b Y.b))).toArray := hD.2.2.1
    clear hF hD hC
    exact wp_bld3 (.tmp 38) (.tmp 47) (.tmp 54) rfl e38 e47 e54 Try.underlying125 Try.szE2 Try.zrE6 (m2_len P n _) (m2_len P n _) (m2_len P n _) rfl (hK _ _ rfl (Below.refl _ _))
  rintro w2 hB hC _ rfl _ rfl _ rfl _ rfl _ rfl _ rfl _ rfl _ rfl _ rfl _ rfl _ rfl _ rfl _ rfl _ rfl _ rfl _ rfl _ rfl _ rfl _ rfl _ rfl _ rfl _ rfl _ rfl _ rfl _ rfl _ rfl
  change Below _ _ _ at hB
  change wpList _ _ _ _ _ _
  simp only [List.drop_succ_cons, List.drop_zero, Act.put, List.setIfInBounds_toArray, List.set_cons_zero, List.set_cons_succ]
  have hS2 := hide (hS1.out.next hB)
  clear hB hC hS1
  go_wp2_with ((with_reducible refine storeWS (n := 36) (o := ⟨none, _, _, _, _, _⟩) ?_ 125 (.tmp 6) (.tmp 55) ?_ hS2.out 3 (c := ⟨b6, 125, z0 36⟩) ?_ ?_ (m6 P n (⟨Z2.add (Z2.mul X.a Y.a) (Z2.up N (Z6.crs X.b X.c Y.b Y.c (Z2.mul X.b Y.b) (Z2.mul X.c Y.c))), Z2.add (Z6.crs X.a X.b Y.a Y.b (Z2.mul X.a Y.a) (Z2.mul X.b Y.b)) (Z2.up N (Z2.mul X.c Y.c)), Z2.add (Z6.crs X.a X.c Y.a Y.c (Z2.mul X.a Y.a) (Z2.mul X.c Y.c)) (Z2.mul X.b Y.b)⟩)) ?_ ?_ ?_ ?_ Try.szE6 ?_); rfl; rfl; rfl; rfl; rfl; rfl; rfl; rfl; intro wz hZ hO)
  exact retS rfl hZ 3 (c := ⟨b6, 125, m6 P n (⟨Z2.add (Z2.mul X.a Y.a) (Z2.up N (Z6.crs X.b X.c Y.b Y.c (Z2.mul X.b Y.b) (Z2.mul X.c Y.c))), Z2.add (Z6.crs X.a X.b Y.a Y.b (Z2.mul X.a Y.a) (Z2.mul X.b Y.b)) (Z2.up N (Z2.mul X.c Y.c)), Z2.add (Z6.crs X.a X.c Y.a Y.c (Z2.mul X.a Y.a) (Z2.mul X.c Y.c)) (Z2.mul X.b Y.b)⟩)⟩) rfl rfl Try.underlying125 rfl Try.szE6 rfl ⟨congrArg (fun z => Ending.returned (.agg (m6 P n z).toArray)) (kara6 N X Y), hZ.bl⟩

set_option maxRecDepth 100000 in
set_option maxHeartbeats 3200000 in
theorem xone12 {bt bm P n : Nat} {N : Int} {fr : List Value} {w : World} (hT : TB w bt bm P n N fr) (hI : InvOk P) :
    Calls Try.prog 104 #[.pointer (some ⟨bt, 0, none⟩)] w fun e w' => e = .returned (.agg (m12 P n Z12.one).toArray) ∧ Below w.heap.size w w' := by
  have hT := hide hT
  have hI := hide hI
  go_enter Try.func104, Try.ntmps104
  have hq0 := hide (St.start w)
  go_upto_region 1 with (first
    | ((with_reducible refine allocS (o := ⟨some 2, _, _, _, _, _⟩) ?_ 127 ?_ hq0.out (z0 72) Try.zrE12 ?_); rfl; rfl; intro wq1 b2 hS; have hq1 : Hid (St w wq1 [⟨b2, 127, z0 72⟩]) := hide hS; clear hS))
  have hS0 := hq1
  clear hq0 hq1
  go_upto_region 1 with fail
  refine region_seq 4 7 [fun v _ => v = .pointer (some ⟨bt, 0, none⟩), fun v _ => v = .agg (m2 P n Z2.one).toArray, fun v _ => v = .agg (m6 P n (⟨Z2.one, Z2.zero, Z2.zero⟩)).toArray, fun v _ => v = .agg (m12 P n (⟨⟨Z2.one, Z2.zero, Z2.zero⟩, Z6.zero⟩)).toArray]
    [(0, .pointer (some ⟨bt, 0, none⟩))] (fun w' => St w w' [⟨b2, 127, z0 72⟩] ∧ TB w' bt bm P n N fr) (fun w' => True) 999 none trivial (by kernel_rfl) rfl rfl
    (.cons (Fact.eq _) rfl (.cons (Fact.eq _) rfl (.cons (Fact.eq _) rfl (.cons (Fact.eq _) rfl (.nil _))))) (fun w' h => ⟨hS0.out.next h, hT.out.next (hS0.out.next h).bl⟩) (fun w' h => trivial) (by kernel_rfl) (by exact ⟨rfl, trivial⟩) (.cons ?_ (.cons ?_ (.cons ?_ (.cons ?_ .nil)))) ?_
  · refine Obl.plain rfl _ rfl rfl [] (by kernel_rfl) fun a W hF hC hD K hK => ?_
    have e0 : a.tmps.getD 0 undef = .pointer (some ⟨bt, 0, none⟩) := hF.1
    clear hF hD hC
    exact wp_move (.tmp 0) rfl e0 (hK _ _ rfl (Below.refl _ _))
  · refine Obl.plain rfl _ rfl rfl [0] (by kernel_rfl) fun a W hF hC hD K hK => ?_
    obtain ⟨c1, c2⟩ := hC
    have e3 : a.tmps.getD 3 undef = .pointer (some ⟨bt, 0, none⟩) := hD.1
    clear hF hD
    exact wp_callV #[a.tmps.getD 3 undef] #[.pointer (some ⟨bt, 0, none⟩)] (.agg (m2 P n Z2.one).toArray) (by kernel_rfl) (by rw [e3]) (xone2 c2 hI.out) (fun w' hb => hK _ _ rfl hb)
  · refine Obl.plain rfl _ rfl rfl [1] (by kernel_rfl) fun a W hF hC hD K hK => ?_
    have e4 : a.tmps.getD 4 undef = .agg (m2 P n Z2.one).toArray := hD.1
    clear hF hD hC
    exact wp_bld1 (.tmp 4) rfl e4 Try.underlying125 Try.szE2 Try.zrE6 (m2_len P n _) (by decide) (hK _ _ (pad_m6 P n Z2.one) (Below.refl _ _))
  · refine Obl.plain rfl _ rfl rfl [2] (by kernel_rfl) fun a W hF hC hD K hK => ?_
    have e5 : a.tmps.getD 5 undef = .agg (m6 P n (⟨Z2.one, Z2.zero, Z2.zero⟩)).toArray := hD.1
    clear hF hD hC
    exact wp_bld1 (.tmp 5) rfl e5 Try.underlying127 Try.szE6 Try.zrE12 (m6_len P n _) (by decide) (hK _ _ (pad_m12 P n (⟨Z2.one, Z2.zero, Z2.zero⟩)) (Below.refl _ _))
  rintro w1 hB hC _ rfl _ rfl _ rfl _ rfl
  change Below _ _ _ at hB
  change wpList _ _ _ _ _ _
  simp only [List.drop_succ_cons, List.drop_zero, Act.put, List.setIfInBounds_toArray, List.set_cons_zero, List.set_cons_succ]
  have hS1 := hide (hS0.out.next hB)
  clear hB hC hS0
  go_wp2_with ((with_reducible refine storeWS (n := 72) (o := ⟨none, _, _, _, _, _⟩) ?_ 127 (.tmp 2) (.tmp 6) ?_ hS1.out 0 (c := ⟨b2, 127, z0 72⟩) ?_ ?_ (m12 P n (⟨⟨Z2.one, Z2.zero, Z2.zero⟩, Z6.zero⟩)) ?_ ?_ ?_ ?_ Try.szE12 ?_); rfl; rfl; rfl; rfl; rfl; rfl; rfl; rfl; intro wz hZ hO)
  exact retS rfl hZ 0 (c := ⟨b2, 127, m12 P n (⟨⟨Z2.one, Z2.zero, Z2.zero⟩, Z6.zero⟩)⟩) rfl rfl Try.underlying127 rfl Try.szE12 rfl ⟨rfl, hZ.bl⟩

set_option maxRecDepth 100000 in
set_option maxHeartbeats 3200000 in
theorem xmul12 {bt bm P n : Nat} {N : Int} {fr : List Value} {w : World} (X Y : Z12) (hT : TB w bt bm P n N fr) (hI : InvOk P) :
    Calls Try.prog 86 #[.pointer (some ⟨bt, 0, none⟩), .agg (m12 P n X).toArray, .agg (m12 P n Y).toArray] w fun e w' => e = .returned (.agg (m12 P n (Z12.mul N X Y)).toArray) ∧ Below w.heap.size w w' := by
  have hT := hide hT
  have hI := hide hI
  go_enter Try.func86, Try.ntmps86
  have hq0 := hide (St.start w)
  go_upto_region 1 with (first
    | ((with_reducible refine boxS (o := ⟨some 4, _, _, _, _, _⟩) ?_ 127 (.tmp 1) ?_ hq0.out (m12 P n X) ?_ ?_); rfl; rfl; rfl; intro wq1 b4 hS; have hq1 : Hid (St w wq1 [⟨b4, 127, m12 P n X⟩]) := hide hS; clear hS)
    | ((with_reducible refine boxS (o := ⟨some 5, _, _, _, _, _⟩) ?_ 127 (.tmp 2) ?_ hq1.out (m12 P n Y) ?_ ?_); rfl; rfl; rfl; intro wq2 b5 hS; have hq2 : Hid (St w wq2 [⟨b4, 127, m12 P n X⟩, ⟨b5, 127, m12 P n Y⟩]) := hide hS; clear hS)
    | ((with_reducible refine allocS (o := ⟨some 6, _, _, _, _, _⟩) ?_ 127 ?_ hq2.out (z0 72) Try.zrE12 ?_); rfl; rfl; intro wq3 b6 hS; have hq3 : Hid (St w wq3 [⟨b4, 127, m12 P n X⟩, ⟨b5, 127, m12 P n Y⟩, ⟨b6, 127, z0 72⟩]) := hide hS; clear hS))
  have hS0 := hq3
  clear hq0 hq1 hq2 hq3
  go_upto_region 1 with fail
  refine region_loc 16 50 [fun v _ => v = .pointer (some ⟨bt, 0, none⟩), fun v _ => v = .pointer (some ⟨b4, 0, none⟩), fun v _ => v = .agg (m6 P n X.a).toArray, fun v _ => v = .pointer (some ⟨b5, 0, none⟩), fun v _ => v = .agg (m6 P n Y.a).toArray, fun v _ => v = .agg (m6 P n (Z6.mul N X.a Y.a)).toArray, fun v _ => v = .pointer (some ⟨bt, 0, none⟩), fun v _ => v = .pointer (some ⟨b4, 36, none⟩), fun v _ => v = .agg (m6 P n X.b).toArray, fun v _ => v = .pointer (some ⟨b5, 36, none⟩), fun v _ => v = .agg (m6 P n Y.b).toArray, fun v _ => v = .agg (m6 P n (Z6.mul N X.b Y.b)).toArray, fun _ _ => True, fun _ _ => True, fun _ _ => True, fun _ _ => True]
    [(0, .pointer (some ⟨bt, 0, none⟩)), (4, .pointer (some ⟨b4, 0, none⟩)), (5, .pointer (some ⟨b5, 0, none⟩))] (fun w' => St w w' [⟨b4, 127, m12 P n X⟩, ⟨b5, 127, m12 P n Y⟩, ⟨b6, 127, z0 72⟩] ∧ TB w' bt bm P n N fr) [12, 13] 125 (z0 36) [(14, 12, m6 P n (Z6.mul N X.a Y.a)), (15, 13, m6 P n (Z6.mul N X.b Y.b))] (by kernel_rfl) (by kernel_rfl) rfl rfl
    (.cons (factB_eq _) (.cons (factB_eq _) (.cons (factB_eq _) (.cons (factB_eq _) (.cons (factB_eq _) (.cons (factB_eq _) (.cons (factB_eq _) (.cons (factB_eq _) (.cons (factB_eq _) (.cons (factB_eq _) (.cons (factB_eq _) (.cons (factB_eq _) (.cons (fun _ _ _ _ _ _ => trivial) (.cons (fun _ _ _ _ _ _ => trivial) (.cons (fun _ _ _ _ _ _ => trivial) (.cons (fun _ _ _ _ _ _ => trivial) .nil)))))))))))))))) (by kernel_rfl) (fun w' h => ⟨hS0.out.next h, hT.out.next (hS0.out.next h).bl⟩) (by kernel_rfl) (by exact ⟨rfl, rfl, rfl, trivial⟩) (by kernel_rfl) (allC ⟨⟨_, _, rfl, rfl, rfl, rfl⟩⟩ (allC ⟨⟨_, _, rfl, rfl, rfl, rfl⟩⟩ allN)) (allC (fun _ _ => trivial) (allC (fun _ _ => trivial) allN)) (by rfl) (allC ⟨⟨_, 7, 15, 5, rfl, rfl, rfl, rfl, rfl, rfl, by kernel_rfl, by kernel_rfl, fun v w h => h⟩⟩ (allC ⟨⟨_, 8, 21, 11, rfl, rfl, rfl, rfl, rfl, rfl, by kernel_rfl, by kernel_rfl, fun v w h => h⟩⟩ allN)) (allC (fun _ _ => trivial) (allC (fun _ _ => trivial) allN)) (show ([14, 15] : List Nat).Nodup by decide) Try.zrE6 Try.szE6 (.cons (fun _ _ => ?_) (.cons (fun _ _ => ?_) (.cons (fun _ _ => ?_) (.cons (fun _ _ => ?_) (.cons (fun _ _ => ?_) (.cons (fun _ _ => ?_) (.cons (fun _ _ => ?_) (.cons (fun _ _ => ?_) (.cons (fun _ _ => ?_) (.cons (fun _ _ => ?_) (.cons (fun _ _ => ?_) (.cons (fun _ _ => ?_) (.cons (fun h _ => absurd h (by decide)) (.cons (fun h _ => absurd h (by decide)) (.cons (fun _ h => absurd (show true = false from h) (by decide)) (.cons (fun _ h => absurd (show true = false from h) (by decide)) .nil)))))))))))))))) ?_
  · refine Obl.plain rfl _ rfl rfl [] (by kernel_rfl) fun a W hF hC hD K hK => ?_
    have e0 : a.tmps.getD 0 undef = .pointer (some ⟨bt, 0, none⟩) := hF.1
    clear hF hD hC
    exact wp_move (.tmp 0) rfl e0 (hK _ _ rfl (Below.refl _ _))
  · refine Obl.plain rfl _ rfl rfl [] (by kernel_rfl) fun a W hF hC hD K hK => ?_
    have e4 : a.tmps.getD 4 undef = .pointer (some ⟨b4, 0, none⟩) := hF.2.1
    clear hF hD hC
    exact wp_idx (.tmp 4) (.const (.int .i64 0)) rfl e4 0 rfl Try.underlying127 Try.szE6 (by decide) (hK _ _ rfl (Below.refl _ _))
  · refine Obl.plain rfl _ rfl rfl [1] (by kernel_rfl) fun a W hF hC hD K hK => ?_
    obtain ⟨c1, c2⟩ := hC
    have e11 : a.tmps.getD 11 undef = .pointer (some ⟨b4, 0, none⟩) := hD.1
    clear hF hD
    exact wpLd 125 (.tmp 11) rfl (c1.vb 0 _ rfl) 0 e11 (m6 P n X.a) (part0 _ _ (m6_len P n _)) (m6_len P n _) Try.underlying125 rfl Try.szE6 (hK _ _ rfl (Below.refl _ _))
  · refine Obl.plain rfl _ rfl rfl [] (by kernel_rfl) fun a W hF hC hD K hK => ?_
    have e5 : a.tmps.getD 5 undef = .pointer (some ⟨b5, 0, none⟩) := hF.2.2.1
    clear hF hD hC
    exact wp_idx (.tmp 5) (.const (.int .i64 0)) rfl e5 0 rfl Try.underlying127 Try.szE6 (by decide) (hK _ _ rfl (Below.refl _ _))
  · refine Obl.plain rfl _ rfl rfl [3] (by kernel_rfl) fun a W hF hC hD K hK => ?_
    obtain ⟨c1, c2⟩ := hC
    have e13 : a.tmps.getD 13 undef = .pointer (some ⟨b5, 0, none⟩) := hD.1
    clear hF hD
    exact wpLd 125 (.tmp 13) rfl (c1.vb 1 _ rfl) 0 e13 (m6 P n Y.a) (part0 _ _ (m6_len P n _)) (m6_len P n _) Try.underlying125 rfl Try.szE6 (hK _ _ rfl (Below.refl _ _))
  · refine Obl.plain rfl _ rfl rfl [0, 2, 4] (by kernel_rfl) fun a W hF hC hD K hK => ?_
    obtain ⟨c1, c2⟩ := hC
    have e10 : a.tmps.getD 10 undef = .pointer (some ⟨bt, 0, none⟩) := hD.1
    have e12 : a.tmps.getD 12 undef = .agg (m6 P n X.a).toArray := hD.2.1
    have e14 : a.tmps.getD 14 undef = .agg (m6 P n Y.a).toArray := hD.2.2.1
    clear hF hD
    exact wp_callV #[a.tmps.getD 10 undef, a.tmps.getD 12 undef, a.tmps.getD 14 undef] #[.pointer (some ⟨bt, 0, none⟩), .agg (m6 P n X.a).toArray, .agg (m6 P n Y.a).toArray] (.agg (m6 P n (Z6.mul N X.a Y.a)).toArray) (by kernel_rfl) (by rw [e10, e12, e14]) (xmul6 X.a Y.a c2 hI.out) (fun w' hb => hK _ _ rfl hb)
  · refine Obl.plain rfl _ rfl rfl [] (by kernel_rfl) fun a W hF hC hD K hK => ?_
    have e0 : a.tmps.getD 0 undef = .pointer (some ⟨bt, 0, none⟩) := hF.1
    clear hF hD hC
    exact wp_move (.tmp 0) rfl e0 (hK _ _ rfl (Below.refl _ _))
  · refine Obl.plain rfl _ rfl rfl [] (by kernel_rfl) fun a W hF hC hD K hK => ?_
    have e4 : a.tmps.getD 4 undef = .pointer (some ⟨b4, 0, none⟩) := hF.2.1
    clear hF hD hC
    exact wp_idx (.tmp 4) (.const (.int .i64 1)) rfl e4 1 rfl Try.underlying127 Try.szE6 (by decide) (hK _ _ rfl (Below.refl _ _))
  · refine Obl.plain rfl _ rfl rfl [7] (by kernel_rfl) fun a W hF hC hD K hK => ?_
    obtain ⟨c1, c2⟩ := hC
    have e17 : a.tmps.getD 17 undef = .pointer (some ⟨b4, 36, none⟩) := hD.1
    clear hF hD
    exact wpLd 125 (.tmp 17) rfl (c1.vb 0 _ rfl) 36 e17 (m6 P n X.b) (part1 _ _ (m6_len P n _) (m6_len P n _)) (m6_len P n _) Try.underlying125 rfl Try.szE6 (hK _ _ rfl (Below.refl _ _))
  · refine Obl.plain rfl _ rfl rfl [] (by kernel_rfl) fun a W hF hC hD K hK => ?_
    have e5 : a.tmps.getD 5 undef = .pointer (some ⟨b5, 0, none⟩) := hF.2.2.1
    clear hF hD hC
    exact wp_idx (.tmp 5) (.const (.int .i64 1)) rfl e5 1 rfl Try.underlying127 Try.szE6 (by decide) (hK _ _ rfl (Below.refl _ _))
  · refine Obl.plain rfl _ rfl rfl [9] (by kernel_rfl) fun a W hF hC hD K hK => ?_
    obtain ⟨c1, c2⟩ := hC
    have e19 : a.tmps.getD 19 undef = .pointer (some ⟨b5, 36, none⟩) := hD.1
    clear hF hD
    exact wpLd 125 (.tmp 19) rfl (c1.vb 1 _ rfl) 36 e19 (m6 P n Y.b) (part1 _ _ (m6_len P n _) (m6_len P n _)) (m6_len P n _) Try.underlying125 rfl Try.szE6 (hK _ _ rfl (Below.refl _ _))
  · refine Obl.plain rfl _ rfl rfl [6, 8, 10, 5] (by kernel_rfl) fun a W hF hC hD K hK => ?_
    obtain ⟨c1, c2⟩ := hC
    have e16 : a.tmps.getD 16 undef = .pointer (some ⟨bt, 0, none⟩) := hD.1
    have e18 : a.tmps.getD 18 undef = .agg (m6 P n X.b).toArray := hD.2.1
    have e20 : a.tmps.getD 20 undef = .agg (m6 P n Y.b).toArray := hD.2.2.1
    clear hF hD
    exact wp_callV #[a.tmps.getD 16 undef, a.tmps.getD 18 undef, a.tmps.getD 20 undef] #[.pointer (some ⟨bt, 0, none⟩), .agg (m6 P n X.b).toArray, .agg (m6 P n Y.b).toArray] (.agg (m6 P n (Z6.mul N X.b Y.b)).toArray) (by kernel_rfl) (by rw [e16, e18, e20]) (xmul6 X.b Y.b c2 hI.out) (fun w' hb => hK _ _ rfl hb)
  rintro w1 bs hB hC hAl hDl hSl _ rfl _ rfl _ rfl _ rfl _ rfl _ rfl _ rfl _ rfl _ rfl _ rfl _ rfl _ rfl _ rfl _ rfl _ - _ -
  obtain ⟨hlb7, Lb7, hvb7, hnb7⟩ := hAl 12 (by decide)
  obtain ⟨hlb8, Lb8, hvb8, hnb8⟩ := hAl 13 (by decide)
  have hdb7b8 := hDl 12 13 (by decide) (by decide) (by decide)
  have hsb7 := hSl _ (.head _)
  have hsb8 := hSl _ (.tail _ (.head _))
  clear hAl hDl hSl
  change _ ≤ bs 12 at hlb7
  change _ ≤ bs 13 at hlb8
  change VB _ (bs 12) _ _ at hsb7
  change VB _ (bs 13) _ _ at hsb8
  change wpList _ _ _ _ _ _
  simp only [List.drop_succ_cons, List.drop_zero, Act.put, List.setIfInBounds_toArray, List.set_cons_zero, List.set_cons_succ]
  generalize bs 12 = b7 at *
  generalize bs 13 = b8 at *
  clear bs
  have hS1 : Hid (St w w1 [⟨b4, 127, m12 P n X⟩, ⟨b5, 127, m12 P n Y⟩, ⟨b6, 127, z0 72⟩, ⟨b7, 125, m6 P n (Z6.mul N X.a Y.a)⟩, ⟨b8, 125, m6 P n (Z6.mul N X.b Y.b)⟩]) := hide (hS0.out.pushL hB [⟨b7, 125, m6 P n (Z6.mul N X.a Y.a)⟩, ⟨b8, 125, m6 P n (Z6.mul N X.b Y.b)⟩] ⟨hlb7, hsb7, (fun d hd => by simp at hd; subst hd; exact hdb7b8), hlb8, hsb8, (fun d hd => by cases hd), trivial⟩)
  clear hB hC hS0 hlb7 hsb7 hvb7 hnb7 hlb8 hsb8 hvb8 hnb8 hdb7b8
  go_upto_region 2 with fail
  refine region_loc 16 50 [fun v _ => v = .pointer (some ⟨bt, 0, none⟩), fun v _ => v = .pointer (some ⟨bt, 0, none⟩), fun v _ => v = .pointer (some ⟨b4, 0, none⟩), fun v _ => v = .agg (m6 P n X.a).toArray, fun v _ => v = .pointer (some ⟨b4, 36, none⟩), fun v _ => v = .agg (m6 P n X.b).toArray, fun v _ => v = .agg (m6 P n (Z6.add X.a X.b)).toArray, fun v _ => v = .pointer (some ⟨bt, 0, none⟩), fun v _ => v = .pointer (some ⟨b5, 0, none⟩), fun v _ => v = .agg (m6 P n Y.a).toArray, fun v _ => v = .pointer (some ⟨b5, 36, none⟩), fun v _ => v = .agg (m6 P n Y.b).toArray, fun v _ => v = .agg (m6 P n (Z6.add Y.a Y.b)).toArray, fun v _ => v = .agg (m6 P n (Z6.mul N (Z6.add X.a X.b) (Z6.add Y.a Y.b))).toArray, fun _ _ => True, fun _ _ => True]
    [(0, .pointer (some ⟨bt, 0, none⟩)), (4, .pointer (some ⟨b4, 0, none⟩)), (5, .pointer (some ⟨b5, 0, none⟩))] (fun w' => St w w' [⟨b4, 127, m12 P n X⟩, ⟨b5, 127, m12 P n Y⟩, ⟨b6, 127, z0 72⟩, ⟨b7, 125, m6 P n (Z6.mul N X.a Y.a)⟩, ⟨b8, 125, m6 P n (Z6.mul N X.b Y.b)⟩] ∧ TB w' bt bm P n N fr) [14] 125 (z0 36) [(15, 14, m6 P n (Z6.mul N (Z6.add X.a X.b) (Z6.add Y.a Y.b)))] (by kernel_rfl) (by kernel_rfl) rfl rfl
    (.cons (factB_eq _) (.cons (factB_eq _) (.cons (factB_eq _) (.cons (factB_eq _) (.cons (factB_eq _) (.cons (factB_eq _) (.cons (factB_eq _) (.cons (factB_eq _) (.cons (factB_eq _) (.cons (factB_eq _) (.cons (factB_eq _) (.cons (factB_eq _) (.cons (factB_eq _) (.cons (factB_eq _) (.cons (fun _ _ _ _ _ _ => trivial) (.cons (fun _ _ _ _ _ _ => trivial) .nil)))))))))))))))) (by kernel_rfl) (fun w' h => ⟨hS1.out.next h, hT.out.next (hS1.out.next h).bl⟩) (by kernel_rfl) (by exact ⟨rfl, rfl, rfl, trivial⟩) (by kernel_rfl) (allC ⟨⟨_, _, rfl, rfl, rfl, rfl⟩⟩ allN) (allC (fun _ _ => trivial) allN) (by rfl) (allC ⟨⟨_, 9, 35, 13, rfl, rfl, rfl, rfl, rfl, rfl, by kernel_rfl, by kernel_rfl, fun v w h => h⟩⟩ allN) (allC (fun _ _ => trivial) allN) (show ([15] : List Nat).Nodup by decide) Try.zrE6 Try.szE6 (.cons (fun _ _ => ?_) (.cons (fun _ _ => ?_) (.cons (fun _ _ => ?_) (.cons (fun _ _ => ?_) (.cons (fun _ _ => ?_) (.cons (fun _ _ => ?_) (.cons (fun _ _ => ?_) (.cons (fun _ _ => ?_) (.cons (fun _ _ => ?_) (.cons (fun _ _ => ?_) (.cons (fun _ _ => ?_) (.cons (fun _ _ => ?_) (.cons (fun _ _ => ?_) (.cons (fun _ _ => ?_) (.cons (fun h _ => absurd h (by decide)) (.cons (fun _ h => absurd (show true = false from h) (by decide)) .nil)))))))))))))))) ?_
  · refine Obl.plain rfl _ rfl rfl [] (by kernel_rfl) fun a W hF hC hD K hK => ?_
    have e0 : a.tmps.getD 0 undef = .pointer (some ⟨bt, 0, none⟩) := hF.1
    clear hF hD hC
    exact wp_move (.tmp 0) rfl e0 (hK _ _ rfl (Below.refl _ _))
  · refine Obl.plain rfl _ rfl rfl [] (by kernel_rfl) fun a W hF hC hD K hK => ?_
    have e0 : a.tmps.getD 0 undef = .pointer (some ⟨bt, 0, none⟩) := hF.1
    clear hF hD hC
    exact wp_move (.tmp 0) rfl e0 (hK _ _ rfl (Below.refl _ _))
  · refine Obl.plain rfl _ rfl rfl [] (by kernel_rfl) fun a W hF hC hD K hK => ?_
    have e4 : a.tmps.getD 4 undef = .pointer (some ⟨b4, 0, none⟩) := hF.2.1
    clear hF hD hC
    exact wp_idx (.tmp 4) (.const (.int .i64 0)) rfl e4 0 rfl Try.underlying127 Try.szE6 (by decide) (hK _ _ rfl (Below.refl _ _))
  · refine Obl.plain rfl _ rfl rfl [2] (by kernel_rfl) fun a W hF hC hD K hK => ?_
    obtain ⟨c1, c2⟩ := hC
    have e24 : a.tmps.getD 24 undef = .pointer (some ⟨b4, 0, none⟩) := hD.1
    clear hF hD
    exact wpLd 125 (.tmp 24) rfl (c1.vb 0 _ rfl) 0 e24 (m6 P n X.a) (part0 _ _ (m6_len P n _)) (m6_len P n _) Try.underlying125 rfl Try.szE6 (hK _ _ rfl (Below.refl _ _))
  · refine Obl.plain rfl _ rfl rfl [] (by kernel_rfl) fun a W hF hC hD K hK => ?_
    have e4 : a.tmps.getD 4 undef = .pointer (some ⟨b4, 0, none⟩) := hF.2.1
    clear hF hD hC
    exact wp_idx (.tmp 4) (.const (.int .i64 1)) rfl e4 1 rfl Try.underlying127 Try.szE6 (by decide) (hK _ _ rfl (Below.refl _ _))
  · refine Obl.plain rfl _ rfl rfl [4] (by kernel_rfl) fun a W hF hC hD K hK => ?_
    obtain ⟨c1, c2⟩ := hC
    have e26 : a.tmps.getD 26 undef = .pointer (some ⟨b4, 36, none⟩) := hD.1
    clear hF hD
    exact wpLd 125 (.tmp 26) rfl (c1.vb 0 _ rfl) 36 e26 (m6 P n X.b) (part1 _ _ (m6_len P n _) (m6_len P n _)) (m6_len P n _) Try.underlying125 rfl Try.szE6 (hK _ _ rfl (Below.refl _ _))
  · refine Obl.plain rfl _ rfl rfl [1, 3, 5] (by kernel_rfl) fun a W hF hC hD K hK => ?_
    obtain ⟨c1, c2⟩ := hC
    have e23 : a.tmps.getD 23 undef = .pointer (some ⟨bt, 0, none⟩) := hD.1
    have e25 : a.tmps.getD 25 undef = .agg (m6 P n X.a).toArray := hD.2.1
    have e27 : a.tmps.getD 27 undef = .agg (m6 P n X.b).toArray := hD.2.2.1
    clear hF hD
    exact wp_callV #[a.tmps.getD 23 undef, a.tmps.getD 25 undef, a.tmps.getD 27 undef] #[.pointer (some ⟨bt, 0, none⟩), .agg (m6 P n X.a).toArray, .agg (m6 P n X.b).toArray] (.agg (m6 P n (Z6.add X.a X.b)).toArray) (by kernel_rfl) (by rw [e23, e25, e27]) (xadd6 X.a X.b c2 hI.out) (fun w' hb => hK _ _ rfl hb)
  · refine Obl.plain rfl _ rfl rfl [] (by kernel_rfl) fun a W hF hC hD K hK => ?_
    have e0 : a.tmps.getD 0 undef = .pointer (some ⟨bt, 0, none⟩) := hF.1
    clear hF hD hC
    exact wp_move (.tmp 0) rfl e0 (hK _ _ rfl (Below.refl _ _))
  · refine Obl.plain rfl _ rfl rfl [] (by kernel_rfl) fun a W hF hC hD K hK => ?_
    have e5 : a.tmps.getD 5 undef = .pointer (some ⟨b5, 0, none⟩) := hF.2.2.1
    clear hF hD hC
    exact wp_idx (.tmp 5) (.const (.int .i64 0)) rfl e5 0 rfl Try.underlying127 Try.szE6 (by decide) (hK _ _ rfl (Below.refl _ _))
  · refine Obl.plain rfl _ rfl rfl [8] (by kernel_rfl) fun a W hF hC hD K hK => ?_
    obtain ⟨c1, c2⟩ := hC
    have e30 : a.tmps.getD 30 undef = .pointer (some ⟨b5, 0, none⟩) := hD.1
    clear hF hD
    exact wpLd 125 (.tmp 30) rfl (c1.vb 1 _ rfl) 0 e30 (m6 P n Y.a) (part0 _ _ (m6_len P n _)) (m6_len P n _) Try.underlying125 rfl Try.szE6 (hK _ _ rfl (Below.refl _ _))
  · refine Obl.plain rfl _ rfl rfl [] (by kernel_rfl) fun a W hF hC hD K hK => ?_
    have e5 : a.tmps.getD 5 undef = .pointer (some ⟨b5, 0, none⟩) := hF.2.2.1
    clear hF hD hC
    exact wp_idx (.tmp 5) (.const (.int .i64 1)) rfl e5 1 rfl Try.underlying127 Try.szE6 (by decide) (hK _ _ rfl (Below.refl _ _))
  · refine Obl.plain rfl _ rfl rfl [10] (by kernel_rfl) fun a W hF hC hD K hK => ?_
    obtain ⟨c1, c2⟩ := hC
    have e32 : a.tmps.getD 32 undef = .pointer (some ⟨b5, 36, none⟩) := hD.1
    clear hF hD
    exact wpLd 125 (.tmp 32) rfl (c1.vb 1 _ rfl) 36 e32 (m6 P n Y.b) (part1 _ _ (m6_len P n _) (m6_len P n _)) (m6_len P n _) Try.underlying125 rfl Try.szE6 (hK _ _ rfl (Below.refl _ _))
  · refine Obl.plain rfl _ rfl rfl [7, 9, 11, 6] (by kernel_rfl) fun a W hF hC hD K hK => ?_
    obtain ⟨c1, c2⟩ := hC
    have e29 : a.tmps.getD 29 undef = .pointer (some ⟨bt, 0, none⟩) := hD.1
    have e31 : a.tmps.getD 31 undef = .agg (m6 P n Y.a).toArray := hD.2.1
    have e33 : a.tmps.getD 33 undef = .agg (m6 P n Y.b).toArray := hD.2.2.1
    clear hF hD
    exact wp_callV #[a.tmps.getD 29 undef, a.tmps.getD 31 undef, a.tmps.getD 33 undef] #[.pointer (some ⟨bt, 0, none⟩), .agg (m6 P n Y.a).toArray, .agg (m6 P n Y.b).toArray] (.agg (m6 P n (Z6.add Y.a Y.b)).toArray) (by kernel_rfl) (by rw [e29, e31, e33]) (xadd6 Y.a Y.b c2 hI.out) (fun w' hb => hK _ _ rfl hb)
  · refine Obl.plain rfl _ rfl rfl [0, 6, 12, 12] (by kernel_rfl) fun a W hF hC hD K hK => ?_
    obtain ⟨c1, c2⟩ := hC
    have e22 : a.tmps.getD 22 undef = .pointer (some ⟨bt, 0, none⟩) := hD.1
    have e28 : a.tmps.getD 28 undef = .agg (m6 P n (Z6.add X.a X.b)).toArray := hD.2.1
    have e34 : a.tmps.getD 34 undef = .agg (m6 P n (Z6.add Y.a Y.b)).toArray := hD.2.2.1
    clear hF hD
    exact wp_callV #[a.tmps.getD 22 undef, a.tmps.getD 28 undef, a.tmps.getD 34 undef] #[.pointer (some ⟨bt, 0, none⟩), .agg (m6 P n (Z6.add X.a X.b)).toArray, .agg (m6 P n (Z6.add Y.a Y.b)).toArray] (.agg (m6 P n (Z6.mul N (Z6.add X.a X.b) (Z6.add Y.a Y.b))).toArray) (by kernel_rfl) (by rw [e22, e28, e34]) (xmul6 (Z6.add X.a X.b) (Z6.add Y.a Y.b) c2 hI.out) (fun w' hb => hK _ _ rfl hb)
  rintro w2 bs hB hC hAl hDl hSl _ rfl _ rfl _ rfl _ rfl _ rfl _ rfl _ rfl _ rfl _ rfl _ rfl _ rfl _ rfl _ rfl _ rfl _ rfl _ -
  obtain ⟨hlb9, Lb9, hvb9, hnb9⟩ := hAl 14 (by decide)
  have hsb9 := hSl _ (.head _)
  clear hAl hDl hSl
  change _ ≤ bs 14 at hlb9
  change VB _ (bs 14) _ _ at hsb9
  change wpList _ _ _ _ _ _
  simp only [List.drop_succ_cons, List.drop_zero, Act.put, List.setIfInBounds_toArray, List.set_cons_zero, List.set_cons_succ]
  generalize bs 14 = b9 at *
  clear bs
  have hS2 : Hid (St w w2 [⟨b4, 127, m12 P n X⟩, ⟨b5, 127, m12 P n Y⟩, ⟨b6, 127, z0 72⟩, ⟨b7, 125, m6 P n (Z6.mul N X.a Y.a)⟩, ⟨b8, 125, m6 P n (Z6.mul N X.b Y.b)⟩, ⟨b9, 125, m6 P n (Z6.mul N (Z6.add X.a X.b) (Z6.add Y.a Y.b))⟩]) := hide (hS1.out.pushL hB [⟨b9, 125, m6 P n (Z6.mul N (Z6.add X.a X.b) (Z6.add Y.a Y.b))⟩] ⟨hlb9, hsb9, (fun d hd => by cases hd), trivial⟩)
  clear hB hC hS1 hlb9 hsb9 hvb9 hnb9 
  go_upto_region 3 with fail
  refine region_do 14 50 [fun v _ => v = .pointer (some ⟨bt, 0, none⟩), fun v _ => v = .agg (m6 P n (Z6.mul N X.a Y.a)).toArray, fun v _ => v = .pointer (some ⟨bt, 0, none⟩), fun v _ => v = .agg (m6 P n (Z6.mul N X.b Y.b)).toArray, fun v _ => v = .agg (m6 P n (Z6.up N (Z6.mul N X.b Y.b))).toArray, fun v _ => v = .agg (m6 P n (Z6.add (Z6.mul N X.a Y.a) (Z6.up N (Z6.mul N X.b Y.b)))).toArray, fun v _ => v = .pointer (some ⟨bt, 0, none⟩), fun v _ => v = .pointer (some ⟨bt, 0, none⟩), fun v _ => v = .agg (m6 P n (Z6.mul N (Z6.add X.a X.b) (Z6.add Y.a Y.b))).toArray, fun v _ => v = .agg (m6 P n (Z6.mul N X.a Y.a)).toArray, fun v _ => v = .agg (m6 P n (Z6.sub (Z6.mul N (Z6.add X.a X.b) (Z6.add Y.a Y.b)) (Z6.mul N X.a Y.a))).toArray, fun v _ => v = .agg (m6 P n (Z6.mul N X.b Y.b)).toArray, fun v _ => v = .agg (m6 P n (Z6.sub (Z6.sub (Z6.mul N (Z6.add X.a X.b) (Z6.add Y.a Y.b)) (Z6.mul N X.a Y.a)) (Z6.mul N X.b Y.b))).toArray, fun v _ => v = .agg (m12 P n (⟨Z6.add (Z6.mul N X.a Y.a) (Z6.up N (Z6.mul N X.b Y.b)), Z6.sub (Z6.sub (Z6.mul N (Z6.add X.a X.b) (Z6.add Y.a Y.b)) (Z6.mul N X.a Y.a)) (Z6.mul N X.b Y.b)⟩)).toArray]
    [(0, .pointer (some ⟨bt, 0, none⟩)), (7, .pointer (some ⟨b7, 0, none⟩)), (8, .pointer (some ⟨b8, 0, none⟩)), (9, .pointer (some ⟨b9, 0, none⟩))] (fun w' => St w w' [⟨b4, 127, m12 P n X⟩, ⟨b5, 127, m12 P n Y⟩, ⟨b6, 127, z0 72⟩, ⟨b7, 125, m6 P n (Z6.mul N X.a Y.a)⟩, ⟨b8, 125, m6 P n (Z6.mul N X.b Y.b)⟩, ⟨b9, 125, m6 P n (Z6.mul N (Z6.add X.a X.b) (Z6.add Y.a Y.b))⟩] ∧ TB w' bt bm P n N fr) (fun w' => True) 999 none (by kernel_rfl) (by kernel_rfl) rfl rfl
    (.cons (Fact.eq _) rfl (.cons (Fact.eq _) rfl (.cons (Fact.eq _) rfl (.cons (Fact.eq _) rfl (.cons (Fact.eq _) rfl (.cons (Fact.eq _) rfl (.cons (Fact.eq _) rfl (.cons (Fact.eq _) rfl (.cons (Fact.eq _) rfl (.cons (Fact.eq _) rfl (.cons (Fact.eq _) rfl (.cons (Fact.eq _) rfl (.cons (Fact.eq _) rfl (.cons (Fact.eq _) rfl (.nil _))))))))))))))) (fun w' h => ⟨hS2.out.next h, hT.out.next (hS2.out.next h).bl⟩) (fun w' h => trivial) (by kernel_rfl) (by exact ⟨rfl, rfl, rfl, rfl, trivial⟩) (.cons ?_ (.cons ?_ (.cons ?_ (.cons ?_ (.cons ?_ (.cons ?_ (.cons ?_ (.cons ?_ (.cons ?_ (.cons ?_ (.cons ?_ (.cons ?_ (.cons ?_ (.cons ?_ .nil)))))))))))))) ?_
  · refine Obl.plain rfl _ rfl rfl [] (by kernel_rfl) fun a W hF hC hD K hK => ?_
    have e0 : a.tmps.getD 0 undef = .pointer (some ⟨bt, 0, none⟩) := hF.1
    clear hF hD hC
    exact wp_move (.tmp 0) rfl e0 (hK _ _ rfl (Below.refl _ _))
  · refine Obl.plain rfl _ rfl rfl [] (by kernel_rfl) fun a W hF hC hD K hK => ?_
    obtain ⟨c1, c2⟩ := hC
    have e7 : a.tmps.getD 7 undef = .pointer (some ⟨b7, 0, none⟩) := hF.2.1
    clear hF hD
    exact wpLd 125 (.tmp 7) rfl (c1.vb 3 _ rfl) 0 e7 (m6 P n (Z6.mul N X.a Y.a)) (part_all _ (m6_len P n _)) (m6_len P n _) Try.underlying125 rfl Try.szE6 (hK _ _ rfl (Below.refl _ _))
  · refine Obl.plain rfl _ rfl rfl [] (by kernel_rfl) fun a W hF hC hD K hK => ?_
    have e0 : a.tmps.getD 0 undef = .pointer (some ⟨bt, 0, none⟩) := hF.1
    clear hF hD hC
    exact wp_move (.tmp 0) rfl e0 (hK _ _ rfl (Below.refl _ _))
  · refine Obl.plain rfl _ rfl rfl [] (by kernel_rfl) fun a W hF hC hD K hK => ?_
    obtain ⟨c1, c2⟩ := hC
    have e8 : a.tmps.getD 8 undef = .pointer (some ⟨b8, 0, none⟩) := hF.2.2.1
    clear hF hD
    exact wpLd 125 (.tmp 8) rfl (c1.vb 4 _ rfl) 0 e8 (m6 P n (Z6.mul N X.b Y.b)) (part_all _ (m6_len P n _)) (m6_len P n _) Try.underlying125 rfl Try.szE6 (hK _ _ rfl (Below.refl _ _))
  · refine Obl.plain rfl _ rfl rfl [2, 3] (by kernel_rfl) fun a W hF hC hD K hK => ?_
    obtain ⟨c1, c2⟩ := hC
    have e38 : a.tmps.getD 38 undef = .pointer (some ⟨bt, 0, none⟩) := hD.1
    have e39 : a.tmps.getD 39 undef = .agg (m6 P n (Z6.mul N X.b Y.b)).toArray := hD.2.1
    clear hF hD
    exact wp_callV #[a.tmps.getD 38 undef, a.tmps.getD 39 undef] #[.pointer (some ⟨bt, 0, none⟩), .agg (m6 P n (Z6.mul N X.b Y.b)).toArray] (.agg (m6 P n (Z6.up N (Z6.mul N X.b Y.b))).toArray) (by kernel_rfl) (by rw [e38, e39]) (xup6 (Z6.mul N X.b Y.b) c2 hI.out) (fun w' hb => hK _ _ rfl hb)
  · refine Obl.plain rfl _ rfl rfl [0, 1, 4, 4] (by kernel_rfl) fun a W hF hC hD K hK => ?_
    obtain ⟨c1, c2⟩ := hC
    have e36 : a.tmps.getD 36 undef = .pointer (some ⟨bt, 0, none⟩) := hD.1
    have e37 : a.tmps.getD 37 undef = .agg (m6 P n (Z6.mul N X.a Y.a)).toArray := hD.2.1
    have e40 : a.tmps.getD 40 undef = .agg (m6 P n (Z6.up N (Z6.mul N X.b Y.b))).toArray := hD.2.2.1
    clear hF hD
    exact wp_callV #[a.tmps.getD 36 undef, a.tmps.getD 37 undef, a.tmps.getD 40 undef] #[.pointer (some ⟨bt, 0, none⟩), .agg (m6 P n (Z6.mul N X.a Y.a)).toArray, .agg (m6 P n (Z6.up N (Z6.mul N X.b Y.b))).toArray] (.agg (m6 P n (Z6.add (Z6.mul N X.a Y.a) (Z6.up N (Z6.mul N X.b Y.b)))).toArray) (by kernel_rfl) (by rw [e36, e37, e40]) (xadd6 (Z6.mul N X.a Y.a) (Z6.up N (Z6.mul N X.b Y.b)) c2 hI.out) (fun w' hb => hK _ _ rfl hb)
  · refine Obl.plain rfl _ rfl rfl [] (by kernel_rfl) fun a W hF hC hD K hK => ?_
    have e0 : a.tmps.getD 0 undef = .pointer (some ⟨bt, 0, none⟩) := hF.1
    clear hF hD hC
    exact wp_move (.tmp 0) rfl e0 (hK _ _ rfl (Below.refl _ _))
  · refine Obl.plain rfl _ rfl rfl [] (by kernel_rfl) fun a W hF hC hD K hK => ?_
    have e0 : a.tmps.getD 0 undef = .pointer (some ⟨bt, 0, none⟩) := hF.1
    clear hF hD hC
    exact wp_move (.tmp 0) rfl e0 (hK _ _ rfl (Below.refl _ _))
  · refine Obl.plain rfl _ rfl rfl [] (by kernel_rfl) fun a W hF hC hD K hK => ?_
    obtain ⟨c1, c2⟩ := hC
    have e9 : a.tmps.getD 9 undef = .pointer (some ⟨b9, 0, none⟩) := hF.2.2.2.1
    clear hF hD
    exact wpLd 125 (.tmp 9) rfl (c1.vb 5 _ rfl) 0 e9 (m6 P n (Z6.mul N (Z6.add X.a X.b) (Z6.add Y.a Y.b))) (part_all _ (m6_len P n _)) (m6_len P n _) Try.underlying125 rfl Try.szE6 (hK _ _ rfl (Below.refl _ _))
  · refine Obl.plain rfl _ rfl rfl [] (by kernel_rfl) fun a W hF hC hD K hK => ?_
    obtain ⟨c1, c2⟩ := hC
    have e7 : a.tmps.getD 7 undef = .pointer (some ⟨b7, 0, none⟩) := hF.2.1
    clear hF hD
    exact wpLd 125 (.tmp 7) rfl (c1.vb 3 _ rfl) 0 e7 (m6 P n (Z6.mul N X.a Y.a)) (part_all _ (m6_len P n _)) (m6_len P n _) Try.underlying125 rfl Try.szE6 (hK _ _ rfl (Below.refl _ _))
  · refine Obl.plain rfl _ rfl rfl [7, 8, 9, 5] (by kernel_rfl) fun a W hF hC hD K hK => ?_
    obtain ⟨c1, c2⟩ := hC
    have e43 : a.tmps.getD 43 undef = .pointer (some ⟨bt, 0, none⟩) := hD.1
    have e44 : a.tmps.getD 44 undef = .agg (m6 P n (Z6.mul N (Z6.add X.a X.b) (Z6.add Y.a Y.b))).toArray := hD.2.1
    have e45 : a.tmps.getD 45 undef = .agg (m6 P n (Z6.mul N X.a Y.a)).toArray := hD.2.2.1
    clear hF hD
    exact wp_callV #[a.tmps.getD 43 undef, a.tmps.getD 44 undef, a.tmps.getD 45 undef] #[.pointer (some ⟨bt, 0, none⟩), .agg (m6 P n (Z6.mul N (Z6.add X.a X.b) (Z6.add Y.a Y.b))).toArray, .agg (m6 P n (Z6.mul N X.a Y.a)).toArray] (.agg (m6 P n (Z6.sub (Z6.mul N (Z6.add X.a X.b) (Z6.add Y.a Y.b)) (Z6.mul N X.a Y.a))).toArray) (by kernel_rfl) (by rw [e43, e44, e45]) (xsub6 (Z6.mul N (Z6.add X.a X.b) (Z6.add Y.a Y.b)) (Z6.mul N X.a Y.a) c2 hI.out) (fun w' hb => hK _ _ rfl hb)
  · refine Obl.plain rfl _ rfl rfl [] (by kernel_rfl) fun a W hF hC hD K hK => ?_
    obtain ⟨c1, c2⟩ := hC
    have e8 : a.tmps.getD 8 undef = .pointer (some ⟨b8, 0, none⟩) := hF.2.2.1
    clear hF hD
    exact wpLd 125 (.tmp 8) rfl (c1.vb 4 _ rfl) 0 e8 (m6 P n (Z6.mul N X.b Y.b)) (part_all _ (m6_len P n _)) (m6_len P n _) Try.underlying125 rfl Try.szE6 (hK _ _ rfl (Below.refl _ _))
  · refine Obl.plain rfl _ rfl rfl [6, 10, 11, 10] (by kernel_rfl) fun a W hF hC hD K hK => ?_
    obtain ⟨c1, c2⟩ := hC
    have e42 : a.tmps.getD 42 undef = .pointer (some ⟨bt, 0, none⟩) := hD.1
    have e46 : a.tmps.getD 46 undef = .agg (m6 P n (Z6.sub (Z6.mul N (Z6.add X.a X.b) (Z6.add Y.a Y.b)) (Z6.mul N X.a Y.a))).toArray := hD.2.1
    have e47 : a.tmps.getD 47 undef = .agg (m6 P n (Z6.mul N X.b Y.b)).toArray := hD.2.2.1
    clear hF hD
    exact wp_callV #[a.tmps.getD 42 undef, a.tmps.getD 46 undef, a.tmps.getD 47 undef] #[.pointer (some ⟨bt, 0, none⟩), .agg (m6 P n (Z6.sub (Z6.mul N (Z6.add X.a X.b) (Z6.add Y.a Y.b)) (Z6.mul N X.a Y.a))).toArray, .agg (m6 P n (Z6.mul N X.b Y.b)).toArray] (.agg (m6 P n (Z6.sub (Z6.sub (Z6.mul N (Z6.add X.a X.b) (Z6.add Y.a Y.b)) (Z6.mul N X.a Y.a)) (Z6.mul N X.b Y.b))).toArray) (by kernel_rfl) (by rw [e42, e46, e47]) (xsub6 (Z6.sub (Z6.mul N (Z6.add X.a X.b) (Z6.add Y.a Y.b)) (Z6.mul N X.a Y.a)) (Z6.mul N X.b Y.b) c2 hI.out) (fun w' hb => hK _ _ rfl hb)
  · refine Obl.plain rfl _ rfl rfl [5, 12] (by kernel_rfl) fun a W hF hC hD K hK => ?_
    have e41 : a.tmps.getD 41 undef = .agg (m6 P n (Z6.add (Z6.mul N X.a Y.a) (Z6.up N (Z6.mul N X.b Y.b)))).toArray := hD.1
    have e48 : a.tmps.getD 48 undef = .agg (m6 P n (Z6.sub (Z6.sub (Z6.mul N (Z6.add X.a X.b) (Z6.add Y.a Y.b)) (Z6.mul N X.a Y.a)) (Z6.mul N X.b Y.b))).toArray := hD.2.1
    clear hF hD hC
    exact wp_bld2 (.tmp 41) (.tmp 48) rfl e41 e48 Try.underlying127 Try.szE6 Try.zrE12 (m6_len P n _) (m6_len P n _) rfl (hK _ _ rfl (Below.refl _ _))
  rintro w3 hB hC _ rfl _ rfl _ rfl _ rfl _ rfl _ rfl _ rfl _ rfl _ rfl _ rfl _ rfl _ rfl _ rfl _ rfl
  change Below _ _ _ at hB
  change wpList _ _ _ _ _ _
  simp only [List.drop_succ_cons, List.drop_zero, Act.put, List.setIfInBounds_toArray, List.set_cons_zero, List.set_cons_succ]
  have hS3 := hide (hS2.out.next hB)
  clear hB hC hS2
  go_wp2_with ((with_reducible refine storeWS (n := 72) (o := ⟨none, _, _, _, _, _⟩) ?_ 127 (.tmp 6) (.tmp 49) ?_ hS3.out 2 (c := ⟨b6, 127, z0 72⟩) ?_ ?_ (m12 P n (⟨Z6.add (Z6.mul N X.a Y.a) (Z6.up N (Z6.mul N X.b Y.b)), Z6.sub (Z6.sub (Z6.mul N (Z6.add X.a X.b) (Z6.add Y.a Y.b)) (Z6.mul N X.a Y.a)) (Z6.mul N X.b Y.b)⟩)) ?_ ?_ ?_ ?_ Try.szE12 ?_); rfl; rfl; rfl; rfl; rfl; rfl; rfl; rfl; intro wz hZ hO)
  exact retS rfl hZ 2 (c := ⟨b6, 127, m12 P n (⟨Z6.add (Z6.mul N X.a Y.a) (Z6.up N (Z6.mul N X.b Y.b)), Z6.sub (Z6.sub (Z6.mul N (Z6.add X.a X.b) (Z6.add Y.a Y.b)) (Z6.mul N X.a Y.a)) (Z6.mul N X.b Y.b)⟩)⟩) rfl rfl Try.underlying127 rfl Try.szE12 rfl ⟨congrArg (fun z => Ending.returned (.agg (m12 P n z).toArray)) (kara12 N X Y), hZ.bl⟩

set_option maxRecDepth 100000 in
set_option maxHeartbeats 3200000 in
theorem xconj12 {bt bm P n : Nat} {N : Int} {fr : List Value} {w : World} (X : Z12) (hT : TB w bt bm P n N fr) (hI : InvOk P) :
    Calls Try.prog 98 #[.pointer (some ⟨bt, 0, none⟩), .agg (m12 P n X).toArray] w fun e w' => e = .returned (.agg (m12 P n (Z12.conj X)).toArray) ∧ Below w.heap.size w w' := by
  have hT := hide hT
  have hI := hide hI
  go_enter Try.func98, Try.ntmps98
  have hq0 := hide (St.start w)
  go_upto_region 1 with (first
    | ((with_reducible refine boxS (o := ⟨some 3, _, _, _, _, _⟩) ?_ 127 (.tmp 1) ?_ hq0.out (m12 P n X) ?_ ?_); rfl; rfl; rfl; intro wq1 b3 hS; have hq1 : Hid (St w wq1 [⟨b3, 127, m12 P n X⟩]) := hide hS; clear hS)
    | ((with_reducible refine allocS (o := ⟨some 4, _, _, _, _, _⟩) ?_ 127 ?_ hq1.out (z0 72) Try.zrE12 ?_); rfl; rfl; intro wq2 b4 hS; have hq2 : Hid (St w wq2 [⟨b3, 127, m12 P n X⟩, ⟨b4, 127, z0 72⟩]) := hide hS; clear hS))
  have hS0 := hq2
  clear hq0 hq1 hq2
  go_upto_region 1 with fail
  refine region_do 8 13 [fun v _ => v = .pointer (some ⟨b3, 0, none⟩), fun v _ => v = .agg (m6 P n X.a).toArray, fun v _ => v = .pointer (some ⟨bt, 0, none⟩), fun v _ => v = .agg (m6 P n Z6.zero).toArray, fun v _ => v = .pointer (some ⟨b3, 36, none⟩), fun v _ => v = .agg (m6 P n X.b).toArray, fun v _ => v = .agg (m6 P n (Z6.sub Z6.zero X.b)).toArray, fun v _ => v = .agg (m12 P n (⟨X.a, Z6.sub Z6.zero X.b⟩)).toArray]
    [(3, .pointer (some ⟨b3, 0, none⟩)), (0, .pointer (some ⟨bt, 0, none⟩))] (fun w' => St w w' [⟨b3, 127, m12 P n X⟩, ⟨b4, 127, z0 72⟩] ∧ TB w' bt bm P n N fr) (fun w' => True) 999 none (by kernel_rfl) (by kernel_rfl) rfl rfl
    (.cons (Fact.eq _) rfl (.cons (Fact.eq _) rfl (.cons (Fact.eq _) rfl (.cons (Fact.eq _) rfl (.cons (Fact.eq _) rfl (.cons (Fact.eq _) rfl (.cons (Fact.eq _) rfl (.cons (Fact.eq _) rfl (.nil _))))))))) (fun w' h => ⟨hS0.out.next h, hT.out.next (hS0.out.next h).bl⟩) (fun w' h => trivial) (by kernel_rfl) (by exact ⟨rfl, rfl, trivial⟩) (.cons ?_ (.cons ?_ (.cons ?_ (.cons ?_ (.cons ?_ (.cons ?_ (.cons ?_ (.cons ?_ .nil)))))))) ?_
  · refine Obl.plain rfl _ rfl rfl [] (by kernel_rfl) fun a W hF hC hD K hK => ?_
    have e3 : a.tmps.getD 3 undef = .pointer (some ⟨b3, 0, none⟩) := hF.1
    clear hF hD hC
    exact wp_idx (.tmp 3) (.const (.int .i64 0)) rfl e3 0 rfl Try.underlying127 Try.szE6 (by decide) (hK _ _ rfl (Below.refl _ _))
  · refine Obl.plain rfl _ rfl rfl [0] (by kernel_rfl) fun a W hF hC hD K hK => ?_
    obtain ⟨c1, c2⟩ := hC
    have e5 : a.tmps.getD 5 undef = .pointer (some ⟨b3, 0, none⟩) := hD.1
    clear hF hD
    exact wpLd 125 (.tmp 5) rfl (c1.vb 0 _ rfl) 0 e5 (m6 P n X.a) (part0 _ _ (m6_len P n _)) (m6_len P n _) Try.underlying125 rfl Try.szE6 (hK _ _ rfl (Below.refl _ _))
  · refine Obl.plain rfl _ rfl rfl [] (by kernel_rfl) fun a W hF hC hD K hK => ?_
    have e0 : a.tmps.getD 0 undef = .pointer (some ⟨bt, 0, none⟩) := hF.2.1
    clear hF hD hC
    exact wp_move (.tmp 0) rfl e0 (hK _ _ rfl (Below.refl _ _))
  · refine Obl.plain rfl _ rfl rfl [] (by kernel_rfl) fun a W hF hC hD K hK => ?_
    clear hF hD hC
    exact wp_value (.agg (m6 P n Z6.zero).toArray) (by rw [m6_zero]; kernel_rfl) (hK _ _ rfl (Below.refl _ _))
  · refine Obl.plain rfl _ rfl rfl [] (by kernel_rfl) fun a W hF hC hD K hK => ?_
    have e3 : a.tmps.getD 3 undef = .pointer (some ⟨b3, 0, none⟩) := hF.1
    clear hF hD hC
    exact wp_idx (.tmp 3) (.const (.int .i64 1)) rfl e3 1 rfl Try.underlying127 Try.szE6 (by decide) (hK _ _ rfl (Below.refl _ _))
  · refine Obl.plain rfl _ rfl rfl [4] (by kernel_rfl) fun a W hF hC hD K hK => ?_
    obtain ⟨c1, c2⟩ := hC
    have e9 : a.tmps.getD 9 undef = .pointer (some ⟨b3, 36, none⟩) := hD.1
    clear hF hD
    exact wpLd 125 (.tmp 9) rfl (c1.vb 0 _ rfl) 36 e9 (m6 P n X.b) (part1 _ _ (m6_len P n _) (m6_len P n _)) (m6_len P n _) Try.underlying125 rfl Try.szE6 (hK _ _ rfl (Below.refl _ _))
  · refine Obl.plain rfl _ rfl rfl [2, 3, 5] (by kernel_rfl) fun a W hF hC hD K hK => ?_
    obtain ⟨c1, c2⟩ := hC
    have e7 : a.tmps.getD 7 undef = .pointer (some ⟨bt, 0, none⟩) := hD.1
    have e8 : a.tmps.getD 8 undef = .agg (m6 P n Z6.zero).toArray := hD.2.1
    have e10 : a.tmps.getD 10 undef = .agg (m6 P n X.b).toArray := hD.2.2.1
    clear hF hD
    exact wp_callV #[a.tmps.getD 7 undef, a.tmps.getD 8 undef, a.tmps.getD 10 undef] #[.pointer (some ⟨bt, 0, none⟩), .agg (m6 P n Z6.zero).toArray, .agg (m6 P n X.b).toArray] (.agg (m6 P n (Z6.sub Z6.zero X.b)).toArray) (by kernel_rfl) (by rw [e7, e8, e10]) (xsub6 Z6.zero X.b c2 hI.out) (fun w' hb => hK _ _ rfl hb)
  · refine Obl.plain rfl _ rfl rfl [1, 6] (by kernel_rfl) fun a W hF hC hD K hK => ?_
    have e6 : a.tmps.getD 6 undef = .agg (m6 P n X.a).toArray := hD.1
    have e11 : a.tmps.getD 11 undef = .agg (m6 P n (Z6.sub Z6.zero X.b)).toArray := hD.2.1
    clear hF hD hC
    exact wp_bld2 (.tmp 6) (.tmp 11) rfl e6 e11 Try.underlying127 Try.szE6 Try.zrE12 (m6_len P n _) (m6_len P n _) rfl (hK _ _ rfl (Below.refl _ _))
  rintro w1 hB hC _ rfl _ rfl _ rfl _ rfl _ rfl _ rfl _ rfl _ rfl
  change Below _ _ _ at hB
  change wpList _ _ _ _ _ _
  simp only [List.drop_succ_cons, List.drop_zero, Act.put, List.setIfInBounds_toArray, List.set_cons_zero, List.set_cons_succ]
  have hS1 := hide (hS0.out.next hB)
  clear hB hC hS0
  go_wp2_with ((with_reducible refine storeWS (n := 72) (o := ⟨none, _, _, _, _, _⟩) ?_ 127 (.tmp 4) (.tmp 12) ?_ hS1.out 1 (c := ⟨b4, 127, z0 72⟩) ?_ ?_ (m12 P n (⟨X.a, Z6.sub Z6.zero X.b⟩)) ?_ ?_ ?_ ?_ Try.szE12 ?_); rfl; rfl; rfl; rfl; rfl; rfl; rfl; rfl; intro wz hZ hO)
  exact retS rfl hZ 1 (c := ⟨b4, 127, m12 P n (⟨X.a, Z6.sub Z6.zero X.b⟩)⟩) rfl rfl Try.underlying127 rfl Try.szE12 rfl ⟨rfl, hZ.bl⟩
end Go.Proofs.Ytincemkjdgbnnaa
