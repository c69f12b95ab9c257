/- Walks: package tower: Exp12. -/
import Derived.Test.YtincemkjdgbnnaaExC
set_option linter.unusedVariables false
set_option linter.unusedSimpArgs false
namespace Go.Proofs.Ytincemkjdgbnnaa
open Go.RowKit Lm

set_option maxRecDepth 100000 in
set_option maxHeartbeats 3200000 in
theorem wexp12 {tb bf bt bm P n size : Nat} {N : Int} {fr : List Value} {w : World} (x : N12) (A : Option Addr) (c : Nat) (l : List Nat) (hT : TW w tb bf bt bm P n size N fr) (hx : n12ok x) (hr : Rd w .u8 A l) (hc : l.length ≤ c) (hlim : l.length ≤ 1073741824) (hok : Ok 256 l) :
    Calls Try.prog 56 #[.pointer (some ⟨tb, 0, none⟩), .agg (n12 x).toArray, .slice A l.length c] w fun e w' => e = .returned (.agg (n12 (o12 P (Z12.pow N (i12 x) (be l)))).toArray) ∧ Below w.heap.size w w' := by
  have Hs := hide (digs_be_short hok hlim)
  have Hfrom := hide (fun W h => from_any A c l W h hc (by unfold lim; omega) hok)
  have hT := hide hT
  have hx := hide hx
  have Hr := hide hr
  clear hr
  go_enter Try.func56, Try.ntmps56
  have hq0 := hide (St.start w)
  go_upto_region 1 with (first
    | ((with_reducible refine boxS (o := ⟨some 4, _, _, _, _, _⟩) ?_ 64 (.tmp 1) ?_ hq0.out (n12 x) ?_ ?_); rfl; rfl; rfl; intro wq1 b4 hS; have hq1 : Hid (St w wq1 [⟨b4, 64, n12 x⟩]) := hide hS; clear hS)
    | ((with_reducible refine allocS (o := ⟨some 6, _, _, _, _, _⟩) ?_ 64 ?_ hq1.out (z0 72) Try.zrF12 ?_); rfl; rfl; intro wq2 b6 hS; have hq2 : Hid (St w wq2 [⟨b4, 64, n12 x⟩, ⟨b6, 64, z0 72⟩]) := hide hS; clear hS))
  have hS0 := hq2
  clear hq0 hq1 hq2
  go_upto_region 1 with fail
  refine region_do 12 19 [fun v _ => v = .pointer (some ⟨tb, 0, none⟩), fun v _ => v = .pointer (some ⟨tb, 0, none⟩), fun v _ => v = .pointer (some ⟨tb, 0, none⟩), fun v _ => v = .pointer (some ⟨tb, 1, none⟩), fun v _ => v = .pointer (some ⟨bt, 0, none⟩), fun v _ => v = .pointer (some ⟨tb, 0, none⟩), fun v _ => v = .agg (n12 x).toArray, fun v _ => v = .agg (m12 P n (i12 x)).toArray, fun v _ => v = .slice A l.length c, fun v w => RetV w .u64 (digs B64 (be l)) v, fun v _ => v = .agg (m12 P n ((Z12.pow N (i12 x) (be l)))).toArray, fun v _ => v = .agg (n12 (o12 P ((Z12.pow N (i12 x) (be l))))).toArray]
    [(0, .pointer (some ⟨tb, 0, none⟩)), (4, .pointer (some ⟨b4, 0, none⟩)), (2, .slice A l.length c)] (fun w' => St w w' [⟨b4, 64, n12 x⟩, ⟨b6, 64, z0 72⟩] ∧ TW w' tb bf bt bm P n size N fr ∧ Rd w' .u8 A l) (fun w' => True) 999 none (by kernel_rfl) (by kernel_rfl) rfl rfl
    (.cons (Fact.eq _) rfl (.cons (Fact.eq _) rfl (.cons (Fact.eq _) rfl (.cons (Fact.eq _) rfl (.cons (Fact.eq _) rfl (.cons (Fact.eq _) rfl (.cons (Fact.eq _) rfl (.cons (Fact.eq _) rfl (.cons (Fact.eq _) rfl (.cons (fun v w w' h hb => h.next hb) rfl (.cons (Fact.eq _) rfl (.cons (Fact.eq _) rfl (.nil _))))))))))))) (fun w' h => ⟨hS0.out.next h, hT.out.next (hS0.out.next h).bl, Hr.out.below (hS0.out.next h).bl⟩) (fun w' h => trivial) (by kernel_rfl) (by exact ⟨rfl, rfl, rfl, trivial⟩) (.cons ?_ (.cons ?_ (.cons ?_ (.cons ?_ (.cons ?_ (.cons ?_ (.cons ?_ (.cons ?_ (.cons ?_ (.cons ?_ (.cons ?_ (.cons ?_ .nil)))))))))))) ?_
  · refine Obl.plain rfl _ rfl rfl [] (by kernel_rfl) fun a W hF hC hD K hK => ?_
    have e0 : a.tmps.getD 0 undef = .pointer (some ⟨tb, 0, none⟩) := hF.1
    clear hF hD hC
    exact wp_move (.tmp 0) rfl e0 (hK _ _ rfl (Below.refl _ _))
  · refine Obl.plain rfl _ rfl rfl [] (by kernel_rfl) fun a W hF hC hD K hK => ?_
    have e0 : a.tmps.getD 0 undef = .pointer (some ⟨tb, 0, none⟩) := hF.1
    clear hF hD hC
    exact wp_move (.tmp 0) rfl e0 (hK _ _ rfl (Below.refl _ _))
  · refine Obl.plain rfl _ rfl rfl [1] (by kernel_rfl) fun a W hF hC hD K hK => ?_
    have e8 : a.tmps.getD 8 undef = .pointer (some ⟨tb, 0, none⟩) := hD.1
    clear hF hD hC
    exact wp_nil (.tmp 8) rfl e8 (hK _ _ rfl (Below.refl _ _))
  · refine Obl.plain rfl _ rfl rfl [2] (by kernel_rfl) fun a W hF hC hD K hK => ?_
    have e9 : a.tmps.getD 9 undef = .pointer (some ⟨tb, 0, none⟩) := hD.1
    clear hF hD hC
    exact wp_fld (.tmp 9) rfl e9 (Try.fldW1 _ W) (hK _ _ rfl (Below.refl _ _))
  · refine Obl.plain rfl _ rfl rfl [3] (by kernel_rfl) fun a W hF hC hD K hK => ?_
    obtain ⟨c1, c2, c3⟩ := hC
    have e10 : a.tmps.getD 10 undef = .pointer (some ⟨tb, 1, none⟩) := hD.1
    clear hF hD
    exact wp_ptr (.tmp 10) rfl e10 c2.cell1 Try.aggT (hK _ _ rfl (Below.refl _ _))
  · refine Obl.plain rfl _ rfl rfl [] (by kernel_rfl) fun a W hF hC hD K hK => ?_
    have e0 : a.tmps.getD 0 undef = .pointer (some ⟨tb, 0, none⟩) := hF.1
    clear hF hD hC
    exact wp_move (.tmp 0) rfl e0 (hK _ _ rfl (Below.refl _ _))
  · refine Obl.plain rfl _ rfl rfl [] (by kernel_rfl) fun a W hF hC hD K hK => ?_
    obtain ⟨c1, c2, c3⟩ := hC
    have e4 : a.tmps.getD 4 undef = .pointer (some ⟨b4, 0, none⟩) := hF.2.1
    clear hF hD
    exact wpLd 64 (.tmp 4) rfl (c1.vb 0 _ rfl) 0 e4 (n12 x) (part_all _ (n12_len _)) (n12_len _) Try.underlying64 rfl Try.szF12 (hK _ _ rfl (Below.refl _ _))
  · refine Obl.plain rfl _ rfl rfl [5, 6] (by kernel_rfl) fun a W hF hC hD K hK => ?_
    obtain ⟨c1, c2, c3⟩ := hC
    have e12 : a.tmps.getD 12 undef = .pointer (some ⟨tb, 0, none⟩) := hD.1
    have e13 : a.tmps.getD 13 undef = .agg (n12 x).toArray := hD.2.1
    clear hF hD
    exact wp_callV #[a.tmps.getD 12 undef, a.tmps.getD 13 undef] #[.pointer (some ⟨tb, 0, none⟩), .agg (n12 x).toArray] (.agg (m12 P n (i12 x)).toArray) (by kernel_rfl) (by rw [e12, e13]) (win12 x c2 hx.out) (fun w' hb => hK _ _ rfl hb)
  · refine Obl.plain rfl _ rfl rfl [] (by kernel_rfl) fun a W hF hC hD K hK => ?_
    have e2 : a.tmps.getD 2 undef = .slice A l.length c := hF.2.2.1
    clear hF hD hC
    exact wp_move (.tmp 2) rfl e2 (hK _ _ rfl (Below.refl _ _))
  · refine Obl.plain rfl _ rfl rfl [8, 7] (by kernel_rfl) fun a W hF hC hD K hK => ?_
    obtain ⟨c1, c2, c3⟩ := hC
    have e15 : a.tmps.getD 15 undef = .slice A l.length c := hD.1
    clear hF hD
    exact wp_callC #[a.tmps.getD 15 undef] #[.slice A l.length c] (by kernel_rfl) (by rw [e15]) (Hfrom.out W c3) (fun e W' ⟨A2, c2', he, hc2, hr2, hb⟩ => ⟨_, he, hK _ _ ⟨A2, c2', rfl, hc2, hr2⟩ hb⟩)
  · refine Obl.plain rfl _ rfl rfl [4, 7, 9, 9] (by kernel_rfl) fun a W hF hC hD K hK => ?_
    obtain ⟨c1, c2, c3⟩ := hC
    have e11 : a.tmps.getD 11 undef = .pointer (some ⟨bt, 0, none⟩) := hD.1
    have e14 : a.tmps.getD 14 undef = .agg (m12 P n (i12 x)).toArray := hD.2.1
    have e16 : (fun (v : Value) (w : World) => RetV w .u64 (digs B64 (be l)) v) (a.tmps.getD 16 undef) W := hD.2.2.1
    clear hF hD
    obtain ⟨A2, c2', h2, hc2, hr2⟩ := e16
    have h := xexp12 (i12 x) A2 c2' (digs B64 (be l)) c2.tb c2.fq.inv hr2 hc2 Hs.out (digs_ok B64_ge _)
    rw [val_digs B64_ge] at h
    exact wp_callV #[a.tmps.getD 11 undef, a.tmps.getD 14 undef, a.tmps.getD 16 undef] #[.pointer (some ⟨bt, 0, none⟩), .agg (m12 P n (i12 x)).toArray, .slice A2 (digs B64 (be l)).length c2'] _ (by kernel_rfl) (by rw [e11, e14, h2]) h (fun w' hb => hK _ _ rfl hb)
  · refine Obl.plain rfl _ rfl rfl [0, 10, 10] (by kernel_rfl) fun a W hF hC hD K hK => ?_
    obtain ⟨c1, c2, c3⟩ := hC
    have e7 : a.tmps.getD 7 undef = .pointer (some ⟨tb, 0, none⟩) := hD.1
    have e17 : a.tmps.getD 17 undef = .agg (m12 P n ((Z12.pow N (i12 x) (be l)))).toArray := hD.2.1
    clear hF hD
    exact wp_callV #[a.tmps.getD 7 undef, a.tmps.getD 17 undef] #[.pointer (some ⟨tb, 0, none⟩), .agg (m12 P n ((Z12.pow N (i12 x) (be l)))).toArray] (.agg (n12 (o12 P ((Z12.pow N (i12 x) (be l))))).toArray) (by kernel_rfl) (by rw [e7, e17]) (wout12 ((Z12.pow N (i12 x) (be l))) c2) (fun w' hb => hK _ _ rfl hb)
  rintro w1 hB hC _ rfl _ rfl _ rfl _ rfl _ rfl _ rfl _ rfl _ rfl _ rfl v16 g16 _ rfl _ rfl
  change Below _ _ _ at hB
  change wpList _ _ _ _ _ _
  simp only [List.drop_succ_cons, List.drop_zero, Act.put, List.setIfInBounds_toArray, List.set_cons_zero, List.set_cons_succ]
  have hS1 := hide (hS0.out.next hB)
  clear hB hC hS0
  clear g16
  go_wp2_with ((with_reducible refine storeWS (n := 72) (o := ⟨none, _, _, _, _, _⟩) ?_ 64 (.tmp 6) (.tmp 18) ?_ hS1.out 1 (c := ⟨b6, 64, z0 72⟩) ?_ ?_ (n12 (o12 P ((Z12.pow N (i12 x) (be l))))) ?_ ?_ ?_ ?_ Try.szF12 ?_); rfl; rfl; rfl; rfl; rfl; rfl; rfl; rfl; intro wz hZ hO)
  exact retS rfl hZ 1 (c := ⟨b6, 64, n12 (o12 P ((Z12.pow N (i12 x) (be l))))⟩) rfl rfl Try.underlying64 rfl Try.szF12 rfl ⟨rfl, hZ.bl⟩
end Go.Proofs.Ytincemkjdgbnnaa
