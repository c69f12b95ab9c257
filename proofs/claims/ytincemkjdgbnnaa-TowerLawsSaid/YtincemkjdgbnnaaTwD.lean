/- Walks: package tower: In2, in6, in12, Out2, out6, Out12, Mul2, Mul6, Mul12, Add2, Sub2, Conj2, Conj12, One12. -/
import Derived.Test.YtincemkjdgbnnaaExB
set_option linter.unusedVariables false
set_option linter.unusedSimpArgs false
namespace Go.Proofs.Ytincemkjdgbnnaa
open Go.RowKit Lm

def n2ok (x : N2) : Prop := x.a < B64 ^ 6 ∧ x.b < B64 ^ 6
def n6ok (x : N6) : Prop := n2ok x.a ∧ n2ok x.b ∧ n2ok x.c
def n12ok (x : N12) : Prop := n6ok x.a ∧ n6ok x.b
def i2 (x : N2) : Z2 := ⟨(x.a : Int), (x.b : Int)⟩
def i6 (x : N6) : Z6 := ⟨i2 x.a, i2 x.b, i2 x.c⟩
def i12 (x : N12) : Z12 := ⟨i6 x.a, i6 x.b⟩
def o2 (P : Nat) (X : Z2) : N2 := ⟨zm P X.a, zm P X.b⟩
def o6 (P : Nat) (X : Z6) : N6 := ⟨o2 P X.a, o2 P X.b, o2 P X.c⟩
def o12 (P : Nat) (X : Z12) : N12 := ⟨o6 P X.a, o6 P X.b⟩

set_option maxRecDepth 100000 in
set_option maxHeartbeats 3200000 in
theorem win2 {tb bf bt bm P n size : Nat} {N : Int} {fr : List Value} {w : World} (x : N2) (hT : TW w tb bf bt bm P n size N fr) (hx : n2ok x) :
    Calls Try.prog 95 #[.pointer (some ⟨tb, 0, none⟩), .agg (n2 x).toArray] w fun e w' => e = .returned (.agg (m2 P n (i2 x)).toArray) ∧ Below w.heap.size w w' := by
  have hT := hide hT
  have hx := hide hx
  go_enter Try.func95, Try.ntmps95
  have hq0 := hide (St.start w)
  go_upto_region 1 with (first
    | ((with_reducible refine boxS (o := ⟨some 3, _, _, _, _, _⟩) ?_ 60 (.tmp 1) ?_ hq0.out (n2 x) ?_ ?_); rfl; rfl; rfl; intro wq1 b3 hS; have hq1 : Hid (St w wq1 [⟨b3, 60, n2 x⟩]) := hide hS; clear hS)
    | ((with_reducible refine allocS (o := ⟨some 4, _, _, _, _, _⟩) ?_ 123 ?_ hq1.out (z0 12) Try.zrE2 ?_); rfl; rfl; intro wq2 b4 hS; have hq2 : Hid (St w wq2 [⟨b3, 60, n2 x⟩, ⟨b4, 123, z0 12⟩]) := hide hS; clear hS))
  have hS0 := hq2
  clear hq0 hq1 hq2
  go_upto_region 1 with fail
  refine region_do 15 20 [fun v _ => v = .pointer (some ⟨tb, 0, none⟩), fun v _ => v = .pointer (some ⟨tb, 0, none⟩), fun v _ => v = .pointer (some ⟨tb, 0, none⟩), fun v _ => v = .pointer (some ⟨bf, 0, none⟩), fun v _ => v = .pointer (some ⟨b3, 0, none⟩), fun v _ => v = vE x.a, fun v _ => v = vE (mi P n ((x.a : Int))), fun v _ => v = .pointer (some ⟨tb, 0, none⟩), fun v _ => v = .pointer (some ⟨tb, 0, none⟩), fun v _ => v = .pointer (some ⟨tb, 0, none⟩), fun v _ => v = .pointer (some ⟨bf, 0, none⟩), fun v _ => v = .pointer (some ⟨b3, 6, none⟩), fun v _ => v = vE x.b, fun v _ => v = vE (mi P n ((x.b : Int))), fun v _ => v = .agg (m2 P n (⟨(x.a : Int), (x.b : Int)⟩)).toArray]
    [(0, .pointer (some ⟨tb, 0, none⟩)), (3, .pointer (some ⟨b3, 0, none⟩))] (fun w' => St w w' [⟨b3, 60, n2 x⟩, ⟨b4, 123, z0 12⟩] ∧ TW w' tb bf bt bm P n size N fr) (fun w' => True) 999 none (by kernel_rfl) (by kernel_rfl) rfl rfl
    (.cons (Fact.eq _) rfl (.cons (Fact.eq _) rfl (.cons (Fact.eq _) rfl (.cons (Fact.eq _) rfl (.cons (Fact.eq _) rfl (.cons (Fact.eq _) rfl (.cons (Fact.eq _) rfl (.cons (Fact.eq _) rfl (.cons (Fact.eq _) rfl (.cons (Fact.eq _) rfl (.cons (Fact.eq _) rfl (.cons (Fact.eq _) rfl (.cons (Fact.eq _) rfl (.cons (Fact.eq _) rfl (.cons (Fact.eq _) rfl (.nil _)))))))))))))))) (fun w' h => ⟨hS0.out.next h, hT.out.next (hS0.out.next h).bl⟩) (fun w' h => trivial) (by kernel_rfl) (by exact ⟨rfl, rfl, trivial⟩) (.cons ?_ (.cons ?_ (.cons ?_ (.cons ?_ (.cons ?_ (.cons ?_ (.cons ?_ (.cons ?_ (.cons ?_ (.cons ?_ (.cons ?_ (.cons ?_ (.cons ?_ (.cons ?_ (.cons ?_ .nil))))))))))))))) ?_
  · refine Obl.plain rfl _ rfl rfl [] (by kernel_rfl) fun a W hF hC hD K hK => ?_
    have e0 : a.tmps.getD 0 undef = .pointer (some ⟨tb, 0, none⟩) := hF.1
    clear hF hD hC
    exact wp_move (.tmp 0) rfl e0 (hK _ _ rfl (Below.refl _ _))
  · refine Obl.plain rfl _ rfl rfl [0] (by kernel_rfl) fun a W hF hC hD K hK => ?_
    have e5 : a.tmps.getD 5 undef = .pointer (some ⟨tb, 0, none⟩) := hD.1
    clear hF hD hC
    exact wp_nil (.tmp 5) rfl e5 (hK _ _ rfl (Below.refl _ _))
  · refine Obl.plain rfl _ rfl rfl [1] (by kernel_rfl) fun a W hF hC hD K hK => ?_
    have e6 : a.tmps.getD 6 undef = .pointer (some ⟨tb, 0, none⟩) := hD.1
    clear hF hD hC
    exact wp_fld (.tmp 6) rfl e6 (Try.fldW0 _ W) (hK _ _ rfl (Below.refl _ _))
  · refine Obl.plain rfl _ rfl rfl [2] (by kernel_rfl) fun a W hF hC hD K hK => ?_
    obtain ⟨c1, c2⟩ := hC
    have e7 : a.tmps.getD 7 undef = .pointer (some ⟨tb, 0, none⟩) := hD.1
    clear hF hD
    exact wp_ptr (.tmp 7) rfl e7 c2.cell0 Try.aggQ (hK _ _ rfl (Below.refl _ _))
  · refine Obl.plain rfl _ rfl rfl [] (by kernel_rfl) fun a W hF hC hD K hK => ?_
    have e3 : a.tmps.getD 3 undef = .pointer (some ⟨b3, 0, none⟩) := hF.2.1
    clear hF hD hC
    exact wp_idx (.tmp 3) (.const (.int .i64 0)) rfl e3 0 rfl Try.underlying60 Try.sz24 (by decide) (hK _ _ rfl (Below.refl _ _))
  · refine Obl.plain rfl _ rfl rfl [4] (by kernel_rfl) fun a W hF hC hD K hK => ?_
    obtain ⟨c1, c2⟩ := hC
    have e9 : a.tmps.getD 9 undef = .pointer (some ⟨b3, 0, none⟩) := hD.1
    clear hF hD
    exact wpLd 24 (.tmp 9) rfl (c1.vb 0 _ rfl) 0 e9 (ve x.a) (part0 _ _ (ve_length _)) (ve_length _) Try.underlying24 rfl Try.sz24 (hK _ _ rfl (Below.refl _ _))
  · refine Obl.plain rfl _ rfl rfl [3, 5] (by kernel_rfl) fun a W hF hC hD K hK => ?_
    obtain ⟨c1, c2⟩ := hC
    have e8 : a.tmps.getD 8 undef = .pointer (some ⟨bf, 0, none⟩) := hD.1
    have e10 : a.tmps.getD 10 undef = vE x.a := hD.2.1
    clear hF hD
    exact wp_callV #[a.tmps.getD 8 undef, a.tmps.getD 10 undef] #[.pointer (some ⟨bf, 0, none⟩), vE x.a] (vE (mi P n ((x.a : Int)))) (by kernel_rfl) (by rw [e8, e10]) (iin x.a c2.fq hx.out.1) (fun w' hb => hK _ _ rfl hb)
  · refine Obl.plain rfl _ rfl rfl [] (by kernel_rfl) fun a W hF hC hD K hK => ?_
    have e0 : a.tmps.getD 0 undef = .pointer (some ⟨tb, 0, none⟩) := hF.1
    clear hF hD hC
    exact wp_move (.tmp 0) rfl e0 (hK _ _ rfl (Below.refl _ _))
  · refine Obl.plain rfl _ rfl rfl [7] (by kernel_rfl) fun a W hF hC hD K hK => ?_
    have e12 : a.tmps.getD 12 undef = .pointer (some ⟨tb, 0, none⟩) := hD.1
    clear hF hD hC
    exact wp_nil (.tmp 12) rfl e12 (hK _ _ rfl (Below.refl _ _))
  · refine Obl.plain rfl _ rfl rfl [8] (by kernel_rfl) fun a W hF hC hD K hK => ?_
    have e13 : a.tmps.getD 13 undef = .pointer (some ⟨tb, 0, none⟩) := hD.1
    clear hF hD hC
    exact wp_fld (.tmp 13) rfl e13 (Try.fldW0 _ W) (hK _ _ rfl (Below.refl _ _))
  · refine Obl.plain rfl _ rfl rfl [9] (by kernel_rfl) fun a W hF hC hD K hK => ?_
    obtain ⟨c1, c2⟩ := hC
    have e14 : a.tmps.getD 14 undef = .pointer (some ⟨tb, 0, none⟩) := hD.1
    clear hF hD
    exact wp_ptr (.tmp 14) rfl e14 c2.cell0 Try.aggQ (hK _ _ rfl (Below.refl _ _))
  · refine Obl.plain rfl _ rfl rfl [] (by kernel_rfl) fun a W hF hC hD K hK => ?_
    have e3 : a.tmps.getD 3 undef = .pointer (some ⟨b3, 0, none⟩) := hF.2.1
    clear hF hD hC
    exact wp_idx (.tmp 3) (.const (.int .i64 1)) rfl e3 1 rfl Try.underlying60 Try.sz24 (by decide) (hK _ _ rfl (Below.refl _ _))
  · refine Obl.plain rfl _ rfl rfl [11] (by kernel_rfl) fun a W hF hC hD K hK => ?_
    obtain ⟨c1, c2⟩ := hC
    have e16 : a.tmps.getD 16 undef = .pointer (some ⟨b3, 6, none⟩) := hD.1
    clear hF hD
    exact wpLd 24 (.tmp 16) rfl (c1.vb 0 _ rfl) 6 e16 (ve x.b) (part1 _ _ (ve_length _) (ve_length _)) (ve_length _) Try.underlying24 rfl Try.sz24 (hK _ _ rfl (Below.refl _ _))
  · refine Obl.plain rfl _ rfl rfl [10, 12, 6] (by kernel_rfl) fun a W hF hC hD K hK => ?_
    obtain ⟨c1, c2⟩ := hC
    have e15 : a.tmps.getD 15 undef = .pointer (some ⟨bf, 0, none⟩) := hD.1
    have e17 : a.tmps.getD 17 undef = vE x.b := hD.2.1
    clear hF hD
    exact wp_callV #[a.tmps.getD 15 undef, a.tmps.getD 17 undef] #[.pointer (some ⟨bf, 0, none⟩), vE x.b] (vE (mi P n ((x.b : Int)))) (by kernel_rfl) (by rw [e15, e17]) (iin x.b c2.fq hx.out.2) (fun w' hb => hK _ _ rfl hb)
  · refine Obl.plain rfl _ rfl rfl [6, 13] (by kernel_rfl) fun a W hF hC hD K hK => ?_
    have e11 : a.tmps.getD 11 undef = vE (mi P n ((x.a : Int))) := hD.1
    have e18 : a.tmps.getD 18 undef = vE (mi P n ((x.b : Int))) := hD.2.1
    clear hF hD hC
    exact wp_bld2 (.tmp 11) (.tmp 18) rfl e11 e18 Try.underlying123 Try.sz98 Try.zrE2 (eE_len P n _) (eE_len P n _) rfl (hK _ _ rfl (Below.refl _ _))
  rintro w1 hB hC _ rfl _ rfl _ rfl _ rfl _ rfl _ rfl _ rfl _ rfl _ rfl _ rfl _ rfl _ rfl _ rfl _ rfl _ rfl
  change Below _ _ _ at hB
  change wpList _ _ _ _ _ _
  simp only [List.drop_succ_cons, List.drop_zero, Act.put, List.setIfInBounds_toArray, List.set_cons_zero, List.set_cons_succ]
  have hS1 := hide (hS0.out.next hB)
  clear hB hC hS0
  go_wp2_with ((with_reducible refine storeWS (n := 12) (o := ⟨none, _, _, _, _, _⟩) ?_ 123 (.tmp 4) (.tmp 19) ?_ hS1.out 1 (c := ⟨b4, 123, z0 12⟩) ?_ ?_ (m2 P n (⟨(x.a : Int), (x.b : Int)⟩)) ?_ ?_ ?_ ?_ Try.szE2 ?_); rfl; rfl; rfl; rfl; rfl; rfl; rfl; rfl; intro wz hZ hO)
  exact retS rfl hZ 1 (c := ⟨b4, 123, m2 P n (⟨(x.a : Int), (x.b : Int)⟩)⟩) rfl rfl Try.underlying123 rfl Try.szE2 rfl ⟨rfl, hZ.bl⟩

set_option maxRecDepth 100000 in
set_option maxHeartbeats 3200000 in
theorem win6 {tb bf bt bm P n size : Nat} {N : Int} {fr : List Value} {w : World} (x : N6) (hT : TW w tb bf bt bm P n size N fr) (hx : n6ok x) :
    Calls Try.prog 92 #[.pointer (some ⟨tb, 0, none⟩), .agg (n6 x).toArray] w fun e w' => e = .returned (.agg (m6 P n (i6 x)).toArray) ∧ Below w.heap.size w w' := by
  have hT := hide hT
  have hx := hide hx
  go_enter Try.func92, Try.ntmps92
  have hq0 := hide (St.start w)
  go_upto_region 1 with (first
    | ((with_reducible refine boxS (o := ⟨some 3, _, _, _, _, _⟩) ?_ 62 (.tmp 1) ?_ hq0.out (n6 x) ?_ ?_); rfl; rfl; rfl; intro wq1 b3 hS; have hq1 : Hid (St w wq1 [⟨b3, 62, n6 x⟩]) := hide hS; clear hS)
    | ((with_reducible refine allocS (o := ⟨some 4, _, _, _, _, _⟩) ?_ 125 ?_ hq1.out (z0 36) Try.zrE6 ?_); rfl; rfl; intro wq2 b4 hS; have hq2 : Hid (St w wq2 [⟨b3, 62, n6 x⟩, ⟨b4, 125, z0 36⟩]) := hide hS; clear hS))
  have hS0 := hq2
  clear hq0 hq1 hq2
  go_upto_region 1 with fail
  refine region_do 13 18 [fun v _ => v = .pointer (some ⟨tb, 0, none⟩), fun v _ => v = .pointer (some ⟨b3, 0, none⟩), fun v _ => v = .agg (n2 x.a).toArray, fun v _ => v = .agg (m2 P n (i2 x.a)).toArray, fun v _ => v = .pointer (some ⟨tb, 0, none⟩), fun v _ => v = .pointer (some ⟨b3, 12, none⟩), fun v _ => v = .agg (n2 x.b).toArray, fun v _ => v = .agg (m2 P n (i2 x.b)).toArray, fun v _ => v = .pointer (some ⟨tb, 0, none⟩), fun v _ => v = .pointer (some ⟨b3, 24, none⟩), fun v _ => v = .agg (n2 x.c).toArray, fun v _ => v = .agg (m2 P n (i2 x.c)).toArray, fun v _ => v = .agg (m6 P n (⟨i2 x.a, i2 x.b, i2 x.c⟩)).toArray]
    [(0, .pointer (some ⟨tb, 0, none⟩)), (3, .pointer (some ⟨b3, 0, none⟩))] (fun w' => St w w' [⟨b3, 62, n6 x⟩, ⟨b4, 125, z0 36⟩] ∧ TW w' tb bf bt bm P n size N fr) (fun w' => True) 999 none (by kernel_rfl) (by kernel_rfl) rfl rfl
    (.cons (Fact.eq _) rfl (.cons (Fact.eq _) rfl (.cons (Fact.eq _) rfl (.cons (Fact.eq _) rfl (.cons (Fact.eq _) rfl (.cons (Fact.eq _) rfl (.cons (Fact.eq _) rfl (.cons (Fact.eq _) rfl (.cons (Fact.eq _) rfl (.cons (Fact.eq _) rfl (.cons (Fact.eq _) rfl (.cons (Fact.eq _) rfl (.cons (Fact.eq _) rfl (.nil _)))))))))))))) (fun w' h => ⟨hS0.out.next h, hT.out.next (hS0.out.next h).bl⟩) (fun w' h => trivial) (by kernel_rfl) (by exact ⟨rfl, rfl, trivial⟩) (.cons ?_ (.cons ?_ (.cons ?_ (.cons ?_ (.cons ?_ (.cons ?_ (.cons ?_ (.cons ?_ (.cons ?_ (.cons ?_ (.cons ?_ (.cons ?_ (.cons ?_ .nil))))))))))))) ?_
  · refine Obl.plain rfl _ rfl rfl [] (by kernel_rfl) fun a W hF hC hD K hK => ?_
    have e0 : a.tmps.getD 0 undef = .pointer (some ⟨tb, 0, none⟩) := hF.1
    clear hF hD hC
    exact wp_move (.tmp 0) rfl e0 (hK _ _ rfl (Below.refl _ _))
  · refine Obl.plain rfl _ rfl rfl [] (by kernel_rfl) fun a W hF hC hD K hK => ?_
    have e3 : a.tmps.getD 3 undef = .pointer (some ⟨b3, 0, none⟩) := hF.2.1
    clear hF hD hC
    exact wp_idx (.tmp 3) (.const (.int .i64 0)) rfl e3 0 rfl Try.underlying62 Try.szF2' (by decide) (hK _ _ rfl (Below.refl _ _))
  · refine Obl.plain rfl _ rfl rfl [1] (by kernel_rfl) fun a W hF hC hD K hK => ?_
    obtain ⟨c1, c2⟩ := hC
    have e6 : a.tmps.getD 6 undef = .pointer (some ⟨b3, 0, none⟩) := hD.1
    clear hF hD
    exact wpLd 60 (.tmp 6) rfl (c1.vb 0 _ rfl) 0 e6 (n2 x.a) (part0 _ _ (n2_len _)) (n2_len _) Try.underlying60 rfl Try.szF2' (hK _ _ rfl (Below.refl _ _))
  · refine Obl.plain rfl _ rfl rfl [0, 2] (by kernel_rfl) fun a W hF hC hD K hK => ?_
    obtain ⟨c1, c2⟩ := hC
    have e5 : a.tmps.getD 5 undef = .pointer (some ⟨tb, 0, none⟩) := hD.1
    have e7 : a.tmps.getD 7 undef = .agg (n2 x.a).toArray := hD.2.1
    clear hF hD
    exact wp_callV #[a.tmps.getD 5 undef, a.tmps.getD 7 undef] #[.pointer (some ⟨tb, 0, none⟩), .agg (n2 x.a).toArray] (.agg (m2 P n (i2 x.a)).toArray) (by kernel_rfl) (by rw [e5, e7]) (win2 x.a c2 hx.out.1) (fun w' hb => hK _ _ rfl hb)
  · refine Obl.plain rfl _ rfl rfl [] (by kernel_rfl) fun a W hF hC hD K hK => ?_
    have e0 : a.tmps.getD 0 undef = .pointer (some ⟨tb, 0, none⟩) := hF.1
    clear hF hD hC
    exact wp_move (.tmp 0) rfl e0 (hK _ _ rfl (Below.refl _ _))
  · refine Obl.plain rfl _ rfl rfl [] (by kernel_rfl) fun a W hF hC hD K hK => ?_
    have e3 : a.tmps.getD 3 undef = .pointer (some ⟨b3, 0, none⟩) := hF.2.1
    clear hF hD hC
    exact wp_idx (.tmp 3) (.const (.int .i64 1)) rfl e3 1 rfl Try.underlying62 Try.szF2' (by decide) (hK _ _ rfl (Below.refl _ _))
  · refine Obl.plain rfl _ rfl rfl [5] (by kernel_rfl) fun a W hF hC hD K hK => ?_
    obtain ⟨c1, c2⟩ := hC
    have e10 : a.tmps.getD 10 undef = .pointer (some ⟨b3, 12, none⟩) := hD.1
    clear hF hD
    exact wpLd 60 (.tmp 10) rfl (c1.vb 0 _ rfl) 12 e10 (n2 x.b) (part_mid _ _ _ (n2_len _) (n2_len _)) (n2_len _) Try.underlying60 rfl Try.szF2' (hK _ _ rfl (Below.refl _ _))
  · refine Obl.plain rfl _ rfl rfl [4, 6, 3] (by kernel_rfl) fun a W hF hC hD K hK => ?_
    obtain ⟨c1, c2⟩ := hC
    have e9 : a.tmps.getD 9 undef = .pointer (some ⟨tb, 0, none⟩) := hD.1
    have e11 : a.tmps.getD 11 undef = .agg (n2 x.b).toArray := hD.2.1
    clear hF hD
    exact wp_callV #[a.tmps.getD 9 undef, a.tmps.getD 11 undef] #[.pointer (some ⟨tb, 0, none⟩), .agg (n2 x.b).toArray] (.agg (m2 P n (i2 x.b)).toArray) (by kernel_rfl) (by rw [e9, e11]) (win2 x.b c2 hx.out.2.1) (fun w' hb => hK _ _ rfl hb)
  · refine Obl.plain rfl _ rfl rfl [] (by kernel_rfl) fun a W hF hC hD K hK => ?_
    have e0 : a.tmps.getD 0 undef = .pointer (some ⟨tb, 0, none⟩) := hF.1
    clear hF hD hC
    exact wp_move (.tmp 0) rfl e0 (hK _ _ rfl (Below.refl _ _))
  · refine Obl.plain rfl _ rfl rfl [] (by kernel_rfl) fun a W hF hC hD K hK => ?_
    have e3 : a.tmps.getD 3 undef = .pointer (some ⟨b3, 0, none⟩) := hF.2.1
    clear hF hD hC
    exact wp_idx (.tmp 3) (.const (.int .i64 2)) rfl e3 2 rfl Try.underlying62 Try.szF2' (by decide) (hK _ _ rfl (Below.refl _ _))
  · refine Obl.plain rfl _ rfl rfl [9] (by kernel_rfl) fun a W hF hC hD K hK => ?_
    obtain ⟨c1, c2⟩ := hC
    have e14 : a.tmps.getD 14 undef = .pointer (some ⟨b3, 24, none⟩) := hD.1
    clear hF hD
    exact wpLd 60 (.tmp 14) rfl (c1.vb 0 _ rfl) 24 e14 (n2 x.c) (part_end _ _ _ rfl (n2_len _)) (n2_len _) Try.underlying60 rfl Try.szF2' (hK _ _ rfl (Below.refl _ _))
  · refine Obl.plain rfl _ rfl rfl [8, 10, 7] (by kernel_rfl) fun a W hF hC hD K hK => ?_
    obtain ⟨c1, c2⟩ := hC
    have e13 : a.tmps.getD 13 undef = .pointer (some ⟨tb, 0, none⟩) := hD.1
    have e15 : a.tmps.getD 15 undef = .agg (n2 x.c).toArray := hD.2.1
    clear hF hD
    exact wp_callV #[a.tmps.getD 13 undef, a.tmps.getD 15 undef] #[.pointer (some ⟨tb, 0, none⟩), .agg (n2 x.c).toArray] (.agg (m2 P n (i2 x.c)).toArray) (by kernel_rfl) (by rw [e13, e15]) (win2 x.c c2 hx.out.2.2) (fun w' hb => hK _ _ rfl hb)
  · refine Obl.plain rfl _ rfl rfl [3, 7, 11] (by kernel_rfl) fun a W hF hC hD K hK => ?_
    have e8 : a.tmps.getD 8 undef = .agg (m2 P n (i2 x.a)).toArray := hD.1
    have e12 : a.tmps.getD 12 undef = .agg (m2 P n (i2 x.b)).toArray := hD.2.1
    have e16 : a.tmps.getD 16 undef = .agg (m2 P n (i2 x.c)).toArray := hD.2.2.1
    clear hF hD hC
    exact wp_bld3 (.tmp 8) (.tmp 12) (.tmp 16) rfl e8 e12 e16 Try.underlying125 Try.szE2 Try.zrE6 (m2_len P n _) (m2_len P n _) (m2_len P n _) rfl (hK _ _ rfl (Below.refl _ _))
  rintro w1 hB hC _ rfl _ rfl _ rfl _ rfl _ rfl _ rfl _ rfl _ rfl _ rfl _ rfl _ rfl _ rfl _ rfl
  change Below _ _ _ at hB
  change wpList _ _ _ _ _ _
  simp only [List.drop_succ_cons, List.drop_zero, Act.put, List.setIfInBounds_toArray, List.set_cons_zero, List.set_cons_succ]
  have hS1 := hide (hS0.out.next hB)
  clear hB hC hS0
  go_wp2_with ((with_reducible refine storeWS (n := 36) (o := ⟨none, _, _, _, _, _⟩) ?_ 125 (.tmp 4) (.tmp 17) ?_ hS1.out 1 (c := ⟨b4, 125, z0 36⟩) ?_ ?_ (m6 P n (⟨i2 x.a, i2 x.b, i2 x.c⟩)) ?_ ?_ ?_ ?_ Try.szE6 ?_); rfl; rfl; rfl; rfl; rfl; rfl; rfl; rfl; intro wz hZ hO)
  exact retS rfl hZ 1 (c := ⟨b4, 125, m6 P n (⟨i2 x.a, i2 x.b, i2 x.c⟩)⟩) rfl rfl Try.underlying125 rfl Try.szE6 rfl ⟨rfl, hZ.bl⟩

set_option maxRecDepth 100000 in
set_option maxHeartbeats 3200000 in
theorem win12 {tb bf bt bm P n size : Nat} {N : Int} {fr : List Value} {w : World} (x : N12) (hT : TW w tb bf bt bm P n size N fr) (hx : n12ok x) :
    Calls Try.prog 87 #[.pointer (some ⟨tb, 0, none⟩), .agg (n12 x).toArray] w fun e w' => e = .returned (.agg (m12 P n (i12 x)).toArray) ∧ Below w.heap.size w w' := by
  have hT := hide hT
  have hx := hide hx
  go_enter Try.func87, Try.ntmps87
  have hq0 := hide (St.start w)
  go_upto_region 1 with (first
    | ((with_reducible refine boxS (o := ⟨some 3, _, _, _, _, _⟩) ?_ 64 (.tmp 1) ?_ hq0.out (n12 x) ?_ ?_); rfl; rfl; rfl; intro wq1 b3 hS; have hq1 : Hid (St w wq1 [⟨b3, 64, n12 x⟩]) := hide hS; clear hS)
    | ((with_reducible refine allocS (o := ⟨some 4, _, _, _, _, _⟩) ?_ 127 ?_ hq1.out (z0 72) Try.zrE12 ?_); rfl; rfl; intro wq2 b4 hS; have hq2 : Hid (St w wq2 [⟨b3, 64, n12 x⟩, ⟨b4, 127, z0 72⟩]) := hide hS; clear hS))
  have hS0 := hq2
  clear hq0 hq1 hq2
  go_upto_region 1 with fail
  refine region_do 9 14 [fun v _ => v = .pointer (some ⟨tb, 0, none⟩), fun v _ => v = .pointer (some ⟨b3, 0, none⟩), fun v _ => v = .agg (n6 x.a).toArray, fun v _ => v = .agg (m6 P n (i6 x.a)).toArray, fun v _ => v = .pointer (some ⟨tb, 0, none⟩), fun v _ => v = .pointer (some ⟨b3, 36, none⟩), fun v _ => v = .agg (n6 x.b).toArray, fun v _ => v = .agg (m6 P n (i6 x.b)).toArray, fun v _ => v = .agg (m12 P n (⟨i6 x.a, i6 x.b⟩)).toArray]
    [(0, .pointer (some ⟨tb, 0, none⟩)), (3, .pointer (some ⟨b3, 0, none⟩))] (fun w' => St w w' [⟨b3, 64, n12 x⟩, ⟨b4, 127, z0 72⟩] ∧ TW w' tb bf bt bm P n size N fr) (fun w' => True) 999 none (by kernel_rfl) (by kernel_rfl) rfl rfl
    (.cons (Fact.eq _) rfl (.cons (Fact.eq _) rfl (.cons (Fact.eq _) rfl (.cons (Fact.eq _) rfl (.cons (Fact.eq _) rfl (.cons (Fact.eq _) rfl (.cons (Fact.eq _) rfl (.cons (Fact.eq _) rfl (.cons (Fact.eq _) rfl (.nil _)))))))))) (fun w' h => ⟨hS0.out.next h, hT.out.next (hS0.out.next h).bl⟩) (fun w' h => trivial) (by kernel_rfl) (by exact ⟨rfl, rfl, trivial⟩) (.cons ?_ (.cons ?_ (.cons ?_ (.cons ?_ (.cons ?_ (.cons ?_ (.cons ?_ (.cons ?_ (.cons ?_ .nil))))))))) ?_
  · refine Obl.plain rfl _ rfl rfl [] (by kernel_rfl) fun a W hF hC hD K hK => ?_
    have e0 : a.tmps.getD 0 undef = .pointer (some ⟨tb, 0, none⟩) := hF.1
    clear hF hD hC
    exact wp_move (.tmp 0) rfl e0 (hK _ _ rfl (Below.refl _ _))
  · refine Obl.plain rfl _ rfl rfl [] (by kernel_rfl) fun a W hF hC hD K hK => ?_
    have e3 : a.tmps.getD 3 undef = .pointer (some ⟨b3, 0, none⟩) := hF.2.1
    clear hF hD hC
    exact wp_idx (.tmp 3) (.const (.int .i64 0)) rfl e3 0 rfl Try.underlying64 Try.szF6 (by decide) (hK _ _ rfl (Below.refl _ _))
  · refine Obl.plain rfl _ rfl rfl [1] (by kernel_rfl) fun a W hF hC hD K hK => ?_
    obtain ⟨c1, c2⟩ := hC
    have e6 : a.tmps.getD 6 undef = .pointer (some ⟨b3, 0, none⟩) := hD.1
    clear hF hD
    exact wpLd 62 (.tmp 6) rfl (c1.vb 0 _ rfl) 0 e6 (n6 x.a) (part0 _ _ (n6_len _)) (n6_len _) Try.underlying62 rfl Try.szF6 (hK _ _ rfl (Below.refl _ _))
  · refine Obl.plain rfl _ rfl rfl [0, 2] (by kernel_rfl) fun a W hF hC hD K hK => ?_
    obtain ⟨c1, c2⟩ := hC
    have e5 : a.tmps.getD 5 undef = .pointer (some ⟨tb, 0, none⟩) := hD.1
    have e7 : a.tmps.getD 7 undef = .agg (n6 x.a).toArray := hD.2.1
    clear hF hD
    exact wp_callV #[a.tmps.getD 5 undef, a.tmps.getD 7 undef] #[.pointer (some ⟨tb, 0, none⟩), .agg (n6 x.a).toArray] (.agg (m6 P n (i6 x.a)).toArray) (by kernel_rfl) (by rw [e5, e7]) (win6 x.a c2 hx.out.1) (fun w' hb => hK _ _ rfl hb)
  · refine Obl.plain rfl _ rfl rfl [] (by kernel_rfl) fun a W hF hC hD K hK => ?_
    have e0 : a.tmps.getD 0 undef = .pointer (some ⟨tb, 0, none⟩) := hF.1
    clear hF hD hC
    exact wp_move (.tmp 0) rfl e0 (hK _ _ rfl (Below.refl _ _))
  · refine Obl.plain rfl _ rfl rfl [] (by kernel_rfl) fun a W hF hC hD K hK => ?_
    have e3 : a.tmps.getD 3 undef = .pointer (some ⟨b3, 0, none⟩) := hF.2.1
    clear hF hD hC
    exact wp_idx (.tmp 3) (.const (.int .i64 1)) rfl e3 1 rfl Try.underlying64 Try.szF6 (by decide) (hK _ _ rfl (Below.refl _ _))
  · refine Obl.plain rfl _ rfl rfl [5] (by kernel_rfl) fun a W hF hC hD K hK => ?_
    obtain ⟨c1, c2⟩ := hC
    have e10 : a.tmps.getD 10 undef = .pointer (some ⟨b3, 36, none⟩) := hD.1
    clear hF hD
    exact wpLd 62 (.tmp 10) rfl (c1.vb 0 _ rfl) 36 e10 (n6 x.b) (part1 _ _ (n6_len _) (n6_len _)) (n6_len _) Try.underlying62 rfl Try.szF6 (hK _ _ rfl (Below.refl _ _))
  · refine Obl.plain rfl _ rfl rfl [4, 6, 3] (by kernel_rfl) fun a W hF hC hD K hK => ?_
    obtain ⟨c1, c2⟩ := hC
    have e9 : a.tmps.getD 9 undef = .pointer (some ⟨tb, 0, none⟩) := hD.1
    have e11 : a.tmps.getD 11 undef = .agg (n6 x.b).toArray := hD.2.1
    clear hF hD
    exact wp_callV #[a.tmps.getD 9 undef, a.tmps.getD 11 undef] #[.pointer (some ⟨tb, 0, none⟩), .agg (n6 x.b).toArray] (.agg (m6 P n (i6 x.b)).toArray) (by kernel_rfl) (by rw [e9, e11]) (win6 x.b c2 hx.out.2) (fun w' hb => hK _ _ rfl hb)
  · refine Obl.plain rfl _ rfl rfl [3, 7] (by kernel_rfl) fun a W hF hC hD K hK => ?_
    have e8 : a.tmps.getD 8 undef = .agg (m6 P n (i6 x.a)).toArray := hD.1
    have e12 : a.tmps.getD 12 undef = .agg (m6 P n (i6 x.b)).toArray := hD.2.1
    clear hF hD hC
    exact wp_bld2 (.tmp 8) (.tmp 12) rfl e8 e12 Try.underlying127 Try.szE6 Try.zrE12 (m6_len P n _) (m6_len P n _) rfl (hK _ _ rfl (Below.refl _ _))
  rintro w1 hB hC _ rfl _ rfl _ rfl _ rfl _ rfl _ rfl _ rfl _ rfl _ rfl
  change Below _ _ _ at hB
  change wpList _ _ _ _ _ _
  simp only [List.drop_succ_cons, List.drop_zero, Act.put, List.setIfInBounds_toArray, List.set_cons_zero, List.set_cons_succ]
  have hS1 := hide (hS0.out.next hB)
  clear hB hC hS0
  go_wp2_with ((with_reducible refine storeWS (n := 72) (o := ⟨none, _, _, _, _, _⟩) ?_ 127 (.tmp 4) (.tmp 13) ?_ hS1.out 1 (c := ⟨b4, 127, z0 72⟩) ?_ ?_ (m12 P n (⟨i6 x.a, i6 x.b⟩)) ?_ ?_ ?_ ?_ Try.szE12 ?_); rfl; rfl; rfl; rfl; rfl; rfl; rfl; rfl; intro wz hZ hO)
  exact retS rfl hZ 1 (c := ⟨b4, 127, m12 P n (⟨i6 x.a, i6 x.b⟩)⟩) rfl rfl Try.underlying127 rfl Try.szE12 rfl ⟨rfl, hZ.bl⟩

set_option maxRecDepth 100000 in
set_option maxHeartbeats 3200000 in
theorem wout2 {tb bf bt bm P n size : Nat} {N : Int} {fr : List Value} {w : World} (X : Z2) (hT : TW w tb bf bt bm P n size N fr) :
    Calls Try.prog 93 #[.pointer (some ⟨tb, 0, none⟩), .agg (m2 P n X).toArray] w fun e w' => e = .returned (.agg (n2 (o2 P X)).toArray) ∧ Below w.heap.size w w' := by
  have hT := hide hT
  go_enter Try.func93, Try.ntmps93
  have hq0 := hide (St.start w)
  go_upto_region 1 with (first
    | ((with_reducible refine boxS (o := ⟨some 3, _, _, _, _, _⟩) ?_ 123 (.tmp 1) ?_ hq0.out (m2 P n X) ?_ ?_); rfl; rfl; rfl; intro wq1 b3 hS; have hq1 : Hid (St w wq1 [⟨b3, 123, m2 P n X⟩]) := hide hS; clear hS)
    | ((with_reducible refine allocS (o := ⟨some 4, _, _, _, _, _⟩) ?_ 60 ?_ hq1.out (z0 12) Try.zrF2' ?_); rfl; rfl; intro wq2 b4 hS; have hq2 : Hid (St w wq2 [⟨b3, 123, m2 P n X⟩, ⟨b4, 60, z0 12⟩]) := hide hS; clear hS))
  have hS0 := hq2
  clear hq0 hq1 hq2
  go_upto_region 1 with fail
  refine region_do 15 20 [fun v _ => v = .pointer (some ⟨tb, 0, none⟩), fun v _ => v = .pointer (some ⟨tb, 0, none⟩), fun v _ => v = .pointer (some ⟨tb, 0, none⟩), fun v _ => v = .pointer (some ⟨bf, 0, none⟩), fun v _ => v = .pointer (some ⟨b3, 0, none⟩), fun v _ => v = vE (mi P n X.a), fun v _ => v = vE (zm P X.a), fun v _ => v = .pointer (some ⟨tb, 0, none⟩), fun v _ => v = .pointer (some ⟨tb, 0, none⟩), fun v _ => v = .pointer (some ⟨tb, 0, none⟩), fun v _ => v = .pointer (some ⟨bf, 0, none⟩), fun v _ => v = .pointer (some ⟨b3, 6, none⟩), fun v _ => v = vE (mi P n X.b), fun v _ => v = vE (zm P X.b), fun v _ => v = .agg (n2 (⟨zm P X.a, zm P X.b⟩)).toArray]
    [(0, .pointer (some ⟨tb, 0, none⟩)), (3, .pointer (some ⟨b3, 0, none⟩))] (fun w' => St w w' [⟨b3, 123, m2 P n X⟩, ⟨b4, 60, z0 12⟩] ∧ TW w' tb bf bt bm P n size N fr) (fun w' => True) 999 none (by kernel_rfl) (by kernel_rfl) rfl rfl
    (.cons (Fact.eq _) rfl (.cons (Fact.eq _) rfl (.cons (Fact.eq _) rfl (.cons (Fact.eq _) rfl (.cons (Fact.eq _) rfl (.cons (Fact.eq _) rfl (.cons (Fact.eq _) rfl (.cons (Fact.eq _) rfl (.cons (Fact.eq _) rfl (.cons (Fact.eq _) rfl (.cons (Fact.eq _) rfl (.cons (Fact.eq _) rfl (.cons (Fact.eq _) rfl (.cons (Fact.eq _) rfl (.cons (Fact.eq _) rfl (.nil _)))))))))))))))) (fun w' h => ⟨hS0.out.next h, hT.out.next (hS0.out.next h).bl⟩) (fun w' h => trivial) (by kernel_rfl) (by exact ⟨rfl, rfl, trivial⟩) (.cons ?_ (.cons ?_ (.cons ?_ (.cons ?_ (.cons ?_ (.cons ?_ (.cons ?_ (.cons ?_ (.cons ?_ (.cons ?_ (.cons ?_ (.cons ?_ (.cons ?_ (.cons ?_ (.cons ?_ .nil))))))))))))))) ?_
  · refine Obl.plain rfl _ rfl rfl [] (by kernel_rfl) fun a W hF hC hD K hK => ?_
    have e0 : a.tmps.getD 0 undef = .pointer (some ⟨tb, 0, none⟩) := hF.1
    clear hF hD hC
    exact wp_move (.tmp 0) rfl e0 (hK _ _ rfl (Below.refl _ _))
  · refine Obl.plain rfl _ rfl rfl [0] (by kernel_rfl) fun a W hF hC hD K hK => ?_
    have e5 : a.tmps.getD 5 undef = .pointer (some ⟨tb, 0, none⟩) := hD.1
    clear hF hD hC
    exact wp_nil (.tmp 5) rfl e5 (hK _ _ rfl (Below.refl _ _))
  · refine Obl.plain rfl _ rfl rfl [1] (by kernel_rfl) fun a W hF hC hD K hK => ?_
    have e6 : a.tmps.getD 6 undef = .pointer (some ⟨tb, 0, none⟩) := hD.1
    clear hF hD hC
    exact wp_fld (.tmp 6) rfl e6 (Try.fldW0 _ W) (hK _ _ rfl (Below.refl _ _))
  · refine Obl.plain rfl _ rfl rfl [2] (by kernel_rfl) fun a W hF hC hD K hK => ?_
    obtain ⟨c1, c2⟩ := hC
    have e7 : a.tmps.getD 7 undef = .pointer (some ⟨tb, 0, none⟩) := hD.1
    clear hF hD
    exact wp_ptr (.tmp 7) rfl e7 c2.cell0 Try.aggQ (hK _ _ rfl (Below.refl _ _))
  · refine Obl.plain rfl _ rfl rfl [] (by kernel_rfl) fun a W hF hC hD K hK => ?_
    have e3 : a.tmps.getD 3 undef = .pointer (some ⟨b3, 0, none⟩) := hF.2.1
    clear hF hD hC
    exact wp_idx (.tmp 3) (.const (.int .i64 0)) rfl e3 0 rfl Try.underlying123 Try.sz98 (by decide) (hK _ _ rfl (Below.refl _ _))
  · refine Obl.plain rfl _ rfl rfl [4] (by kernel_rfl) fun a W hF hC hD K hK => ?_
    obtain ⟨c1, c2⟩ := hC
    have e9 : a.tmps.getD 9 undef = .pointer (some ⟨b3, 0, none⟩) := hD.1
    clear hF hD
    exact wpLd 98 (.tmp 9) rfl (c1.vb 0 _ rfl) 0 e9 (eE P n X.a) (part0 _ _ (eE_len P n _)) (eE_len P n _) Try.underlying98 rfl Try.sz98 (hK _ _ rfl (Below.refl _ _))
  · refine Obl.plain rfl _ rfl rfl [3, 5] (by kernel_rfl) fun a W hF hC hD K hK => ?_
    obtain ⟨c1, c2⟩ := hC
    have e8 : a.tmps.getD 8 undef = .pointer (some ⟨bf, 0, none⟩) := hD.1
    have e10 : a.tmps.getD 10 undef = vE (mi P n X.a) := hD.2.1
    clear hF hD
    exact wp_callV #[a.tmps.getD 8 undef, a.tmps.getD 10 undef] #[.pointer (some ⟨bf, 0, none⟩), vE (mi P n X.a)] (vE (zm P X.a)) (by kernel_rfl) (by rw [e8, e10]) (iout X.a c2.fq) (fun w' hb => hK _ _ rfl hb)
  · refine Obl.plain rfl _ rfl rfl [] (by kernel_rfl) fun a W hF hC hD K hK => ?_
    have e0 : a.tmps.getD 0 undef = .pointer (some ⟨tb, 0, none⟩) := hF.1
    clear hF hD hC
    exact wp_move (.tmp 0) rfl e0 (hK _ _ rfl (Below.refl _ _))
  · refine Obl.plain rfl _ rfl rfl [7] (by kernel_rfl) fun a W hF hC hD K hK => ?_
    have e12 : a.tmps.getD 12 undef = .pointer (some ⟨tb, 0, none⟩) := hD.1
    clear hF hD hC
    exact wp_nil (.tmp 12) rfl e12 (hK _ _ rfl (Below.refl _ _))
  · refine Obl.plain rfl _ rfl rfl [8] (by kernel_rfl) fun a W hF hC hD K hK => ?_
    have e13 : a.tmps.getD 13 undef = .pointer (some ⟨tb, 0, none⟩) := hD.1
    clear hF hD hC
    exact wp_fld (.tmp 13) rfl e13 (Try.fldW0 _ W) (hK _ _ rfl (Below.refl _ _))
  · refine Obl.plain rfl _ rfl rfl [9] (by kernel_rfl) fun a W hF hC hD K hK => ?_
    obtain ⟨c1, c2⟩ := hC
    have e14 : a.tmps.getD 14 undef = .pointer (some ⟨tb, 0, none⟩) := hD.1
    clear hF hD
    exact wp_ptr (.tmp 14) rfl e14 c2.cell0 Try.aggQ (hK _ _ rfl (Below.refl _ _))
  · refine Obl.plain rfl _ rfl rfl [] (by kernel_rfl) fun a W hF hC hD K hK => ?_
    have e3 : a.tmps.getD 3 undef = .pointer (some ⟨b3, 0, none⟩) := hF.2.1
    clear hF hD hC
    exact wp_idx (.tmp 3) (.const (.int .i64 1)) rfl e3 1 rfl Try.underlying123 Try.sz98 (by decide) (hK _ _ rfl (Below.refl _ _))
  · refine Obl.plain rfl _ rfl rfl [11] (by kernel_rfl) fun a W hF hC hD K hK => ?_
    obtain ⟨c1, c2⟩ := hC
    have e16 : a.tmps.getD 16 undef = .pointer (some ⟨b3, 6, none⟩) := hD.1
    clear hF hD
    exact wpLd 98 (.tmp 16) rfl (c1.vb 0 _ rfl) 6 e16 (eE P n X.b) (part1 _ _ (eE_len P n _) (eE_len P n _)) (eE_len P n _) Try.underlying98 rfl Try.sz98 (hK _ _ rfl (Below.refl _ _))
  · refine Obl.plain rfl _ rfl rfl [10, 12, 6] (by kernel_rfl) fun a W hF hC hD K hK => ?_
    obtain ⟨c1, c2⟩ := hC
    have e15 : a.tmps.getD 15 undef = .pointer (some ⟨bf, 0, none⟩) := hD.1
    have e17 : a.tmps.getD 17 undef = vE (mi P n X.b) := hD.2.1
    clear hF hD
    exact wp_callV #[a.tmps.getD 15 undef, a.tmps.getD 17 undef] #[.pointer (some ⟨bf, 0, none⟩), vE (mi P n X.b)] (vE (zm P X.b)) (by kernel_rfl) (by rw [e15, e17]) (iout X.b c2.fq) (fun w' hb => hK _ _ rfl hb)
  · refine Obl.plain rfl _ rfl rfl [6, 13] (by kernel_rfl) fun a W hF hC hD K hK => ?_
    have e11 : a.tmps.getD 11 undef = vE (zm P X.a) := hD.1
    have e18 : a.tmps.getD 18 undef = vE (zm P X.b) := hD.2.1
    clear hF hD hC
    exact wp_bld2 (.tmp 11) (.tmp 18) rfl e11 e18 Try.underlying60 Try.sz24 Try.zrF2' (ve_length _) (ve_length _) rfl (hK _ _ rfl (Below.refl _ _))
  rintro w1 hB hC _ rfl _ rfl _ rfl _ rfl _ rfl _ rfl _ rfl _ rfl _ rfl _ rfl _ rfl _ rfl _ rfl _ rfl _ rfl
  change Below _ _ _ at hB
  change wpList _ _ _ _ _ _
  simp only [List.drop_succ_cons, List.drop_zero, Act.put, List.setIfInBounds_toArray, List.set_cons_zero, List.set_cons_succ]
  have hS1 := hide (hS0.out.next hB)
  clear hB hC hS0
  go_wp2_with ((with_reducible refine storeWS (n := 12) (o := ⟨none, _, _, _, _, _⟩) ?_ 60 (.tmp 4) (.tmp 19) ?_ hS1.out 1 (c := ⟨b4, 60, z0 12⟩) ?_ ?_ (n2 (⟨zm P X.a, zm P X.b⟩)) ?_ ?_ ?_ ?_ Try.szF2' ?_); rfl; rfl; rfl; rfl; rfl; rfl; rfl; rfl; intro wz hZ hO)
  exact retS rfl hZ 1 (c := ⟨b4, 60, n2 (⟨zm P X.a, zm P X.b⟩)⟩) rfl rfl Try.underlying60 rfl Try.szF2' rfl ⟨rfl, hZ.bl⟩

set_option maxRecDepth 100000 in
set_option maxHeartbeats 3200000 in
theorem wout6 {tb bf bt bm P n size : Nat} {N : Int} {fr : List Value} {w : World} (X : Z6) (hT : TW w tb bf bt bm P n size N fr) :
    Calls Try.prog 90 #[.pointer (some ⟨tb, 0, none⟩), .agg (m6 P n X).toArray] w fun e w' => e = .returned (.agg (n6 (o6 P X)).toArray) ∧ Below w.heap.size w w' := by
  have hT := hide hT
  go_enter Try.func90, Try.ntmps90
  have hq0 := hide (St.start w)
  go_upto_region 1 with (first
    | ((with_reducible refine boxS (o := ⟨some 3, _, _, _, _, _⟩) ?_ 125 (.tmp 1) ?_ hq0.out (m6 P n X) ?_ ?_); rfl; rfl; rfl; intro wq1 b3 hS; have hq1 : Hid (St w wq1 [⟨b3, 125, m6 P n X⟩]) := hide hS; clear hS)
    | ((with_reducible refine allocS (o := ⟨some 4, _, _, _, _, _⟩) ?_ 62 ?_ hq1.out (z0 36) Try.zrF6 ?_); rfl; rfl; intro wq2 b4 hS; have hq2 : Hid (St w wq2 [⟨b3, 125, m6 P n X⟩, ⟨b4, 62, z0 36⟩]) := hide hS; clear hS))
  have hS0 := hq2
  clear hq0 hq1 hq2
  go_upto_region 1 with fail
  refine region_do 13 18 [fun v _ => v = .pointer (some ⟨tb, 0, none⟩), fun v _ => v = .pointer (some ⟨b3, 0, none⟩), fun v _ => v = .agg (m2 P n X.a).toArray, fun v _ => v = .agg (n2 (o2 P X.a)).toArray, fun v _ => v = .pointer (some ⟨tb, 0, none⟩), fun v _ => v = .pointer (some ⟨b3, 12, none⟩), fun v _ => v = .agg (m2 P n X.b).toArray, fun v _ => v = .agg (n2 (o2 P X.b)).toArray, fun v _ => v = .pointer (some ⟨tb, 0, none⟩), fun v _ => v = .pointer (some ⟨b3, 24, none⟩), fun v _ => v = .agg (m2 P n X.c).toArray, fun v _ => v = .agg (n2 (o2 P X.c)).toArray, fun v _ => v = .agg (n6 (⟨o2 P X.a, o2 P X.b, o2 P X.c⟩)).toArray]
    [(0, .pointer (some ⟨tb, 0, none⟩)), (3, .pointer (some ⟨b3, 0, none⟩))] (fun w' => St w w' [⟨b3, 125, m6 P n X⟩, ⟨b4, 62, z0 36⟩] ∧ TW w' tb bf bt bm P n size N fr) (fun w' => True) 999 none (by kernel_rfl) (by kernel_rfl) rfl rfl
    (.cons (Fact.eq _) rfl (.cons (Fact.eq _) rfl (.cons (Fact.eq _) rfl (.cons (Fact.eq _) rfl (.cons (Fact.eq _) rfl (.cons (Fact.eq _) rfl (.cons (Fact.eq _) rfl (.cons (Fact.eq _) rfl (.cons (Fact.eq _) rfl (.cons (Fact.eq _) rfl (.cons (Fact.eq _) rfl (.cons (Fact.eq _) rfl (.cons (Fact.eq _) rfl (.nil _)))))))))))))) (fun w' h => ⟨hS0.out.next h, hT.out.next (hS0.out.next h).bl⟩) (fun w' h => trivial) (by kernel_rfl) (by exact ⟨rfl, rfl, trivial⟩) (.cons ?_ (.cons ?_ (.cons ?_ (.cons ?_ (.cons ?_ (.cons ?_ (.cons ?_ (.cons ?_ (.cons ?_ (.cons ?_ (.cons ?_ (.cons ?_ (.cons ?_ .nil))))))))))))) ?_
  · refine Obl.plain rfl _ rfl rfl [] (by kernel_rfl) fun a W hF hC hD K hK => ?_
    have e0 : a.tmps.getD 0 undef = .pointer (some ⟨tb, 0, none⟩) := hF.1
    clear hF hD hC
    exact wp_move (.tmp 0) rfl e0 (hK _ _ rfl (Below.refl _ _))
  · refine Obl.plain rfl _ rfl rfl [] (by kernel_rfl) fun a W hF hC hD K hK => ?_
    have e3 : a.tmps.getD 3 undef = .pointer (some ⟨b3, 0, none⟩) := hF.2.1
    clear hF hD hC
    exact wp_idx (.tmp 3) (.const (.int .i64 0)) rfl e3 0 rfl Try.underlying125 Try.szE2 (by decide) (hK _ _ rfl (Below.refl _ _))
  · refine Obl.plain rfl _ rfl rfl [1] (by kernel_rfl) fun a W hF hC hD K hK => ?_
    obtain ⟨c1, c2⟩ := hC
    have e6 : a.tmps.getD 6 undef = .pointer (some ⟨b3, 0, none⟩) := hD.1
    clear hF hD
    exact wpLd 123 (.tmp 6) rfl (c1.vb 0 _ rfl) 0 e6 (m2 P n X.a) (part0 _ _ (m2_len P n _)) (m2_len P n _) Try.underlying123 rfl Try.szE2 (hK _ _ rfl (Below.refl _ _))
  · refine Obl.plain rfl _ rfl rfl [0, 2] (by kernel_rfl) fun a W hF hC hD K hK => ?_
    obtain ⟨c1, c2⟩ := hC
    have e5 : a.tmps.getD 5 undef = .pointer (some ⟨tb, 0, none⟩) := hD.1
    have e7 : a.tmps.getD 7 undef = .agg (m2 P n X.a).toArray := hD.2.1
    clear hF hD
    exact wp_callV #[a.tmps.getD 5 undef, a.tmps.getD 7 undef] #[.pointer (some ⟨tb, 0, none⟩), .agg (m2 P n X.a).toArray] (.agg (n2 (o2 P X.a)).toArray) (by kernel_rfl) (by rw [e5, e7]) (wout2 X.a c2) (fun w' hb => hK _ _ rfl hb)
  · refine Obl.plain rfl _ rfl rfl [] (by kernel_rfl) fun a W hF hC hD K hK => ?_
    have e0 : a.tmps.getD 0 undef = .pointer (some ⟨tb, 0, none⟩) := hF.1
    clear hF hD hC
    exact wp_move (.tmp 0) rfl e0 (hK _ _ rfl (Below.refl _ _))
  · refine Obl.plain rfl _ rfl rfl [] (by kernel_rfl) fun a W hF hC hD K hK => ?_
    have e3 : a.tmps.getD 3 undef = .pointer (some ⟨b3, 0, none⟩) := hF.2.1
    clear hF hD hC
    exact wp_idx (.tmp 3) (.const (.int .i64 1)) rfl e3 1 rfl Try.underlying125 Try.szE2 (by decide) (hK _ _ rfl (Below.refl _ _))
  · refine Obl.plain rfl _ rfl rfl [5] (by kernel_rfl) fun a W hF hC hD K hK => ?_
    obtain ⟨c1, c2⟩ := hC
    have e10 : a.tmps.getD 10 undef = .pointer (some ⟨b3, 12, none⟩) := hD.1
    clear hF hD
    exact wpLd 123 (.tmp 10) rfl (c1.vb 0 _ rfl) 12 e10 (m2 P n X.b) (part_mid _ _ _ (m2_len P n _) (m2_len P n _)) (m2_len P n _) Try.underlying123 rfl Try.szE2 (hK _ _ rfl (Below.refl _ _))
  · refine Obl.plain rfl _ rfl rfl [4, 6, 3] (by kernel_rfl) fun a W hF hC hD K hK => ?_
    obtain ⟨c1, c2⟩ := hC
    have e9 : a.tmps.getD 9 undef = .pointer (some ⟨tb, 0, none⟩) := hD.1
    have e11 : a.tmps.getD 11 undef = .agg (m2 P n X.b).toArray := hD.2.1
    clear hF hD
    exact wp_callV #[a.tmps.getD 9 undef, a.tmps.getD 11 undef] #[.pointer (some ⟨tb, 0, none⟩), .agg (m2 P n X.b).toArray] (.agg (n2 (o2 P X.b)).toArray) (by kernel_rfl) (by rw [e9, e11]) (wout2 X.b c2) (fun w' hb => hK _ _ rfl hb)
  · refine Obl.plain rfl _ rfl rfl [] (by kernel_rfl) fun a W hF hC hD K hK => ?_
    have e0 : a.tmps.getD 0 undef = .pointer (some ⟨tb, 0, none⟩) := hF.1
    clear hF hD hC
    exact wp_move (.tmp 0) rfl e0 (hK _ _ rfl (Below.refl _ _))
  · refine Obl.plain rfl _ rfl rfl [] (by kernel_rfl) fun a W hF hC hD K hK => ?_
    have e3 : a.tmps.getD 3 undef = .pointer (some ⟨b3, 0, none⟩) := hF.2.1
    clear hF hD hC
    exact wp_idx (.tmp 3) (.const (.int .i64 2)) rfl e3 2 rfl Try.underlying125 Try.szE2 (by decide) (hK _ _ rfl (Below.refl _ _))
  · refine Obl.plain rfl _ rfl rfl [9] (by kernel_rfl) fun a W hF hC hD K hK => ?_
    obtain ⟨c1, c2⟩ := hC
    have e14 : a.tmps.getD 14 undef = .pointer (some ⟨b3, 24, none⟩) := hD.1
    clear hF hD
    exact wpLd 123 (.tmp 14) rfl (c1.vb 0 _ rfl) 24 e14 (m2 P n X.c) (part_end _ _ _ rfl (m2_len P n _)) (m2_len P n _) Try.underlying123 rfl Try.szE2 (hK _ _ rfl (Below.refl _ _))
  · refine Obl.plain rfl _ rfl rfl [8, 10, 7] (by kernel_rfl) fun a W hF hC hD K hK => ?_
    obtain ⟨c1, c2⟩ := hC
    have e13 : a.tmps.getD 13 undef = .pointer (some ⟨tb, 0, none⟩) := hD.1
    have e15 : a.tmps.getD 15 undef = .agg (m2 P n X.c).toArray := hD.2.1
    clear hF hD
    exact wp_callV #[a.tmps.getD 13 undef, a.tmps.getD 15 undef] #[.pointer (some ⟨tb, 0, none⟩), .agg (m2 P n X.c).toArray] (.agg (n2 (o2 P X.c)).toArray) (by kernel_rfl) (by rw [e13, e15]) (wout2 X.c c2) (fun w' hb => hK _ _ rfl hb)
  · refine Obl.plain rfl _ rfl rfl [3, 7, 11] (by kernel_rfl) fun a W hF hC hD K hK => ?_
    have e8 : a.tmps.getD 8 undef = .agg (n2 (o2 P X.a)).toArray := hD.1
    have e12 : a.tmps.getD 12 undef = .agg (n2 (o2 P X.b)).toArray := hD.2.1
    have e16 : a.tmps.getD 16 undef = .agg (n2 (o2 P X.c)).toArray := hD.2.2.1
    clear hF hD hC
    exact wp_bld3 (.tmp 8) (.tmp 12) (.tmp 16) rfl e8 e12 e16 Try.underlying62 Try.szF2' Try.zrF6 (n2_len _) (n2_len _) (n2_len _) rfl (hK _ _ rfl (Below.refl _ _))
  rintro w1 hB hC _ rfl _ rfl _ rfl _ rfl _ rfl _ rfl _ rfl _ rfl _ rfl _ rfl _ rfl _ rfl _ rfl
  change Below _ _ _ at hB
  change wpList _ _ _ _ _ _
  simp only [List.drop_succ_cons, List.drop_zero, Act.put, List.setIfInBounds_toArray, List.set_cons_zero, List.set_cons_succ]
  have hS1 := hide (hS0.out.next hB)
  clear hB hC hS0
  go_wp2_with ((with_reducible refine storeWS (n := 36) (o := ⟨none, _, _, _, _, _⟩) ?_ 62 (.tmp 4) (.tmp 17) ?_ hS1.out 1 (c := ⟨b4, 62, z0 36⟩) ?_ ?_ (n6 (⟨o2 P X.a, o2 P X.b, o2 P X.c⟩)) ?_ ?_ ?_ ?_ Try.szF6 ?_); rfl; rfl; rfl; rfl; rfl; rfl; rfl; rfl; intro wz hZ hO)
  exact retS rfl hZ 1 (c := ⟨b4, 62, n6 (⟨o2 P X.a, o2 P X.b, o2 P X.c⟩)⟩) rfl rfl Try.underlying62 rfl Try.szF6 rfl ⟨rfl, hZ.bl⟩

set_option maxRecDepth 100000 in
set_option maxHeartbeats 3200000 in
theorem wout12 {tb bf bt bm P n size : Nat} {N : Int} {fr : List Value} {w : World} (X : Z12) (hT : TW w tb bf bt bm P n size N fr) :
    Calls Try.prog 85 #[.pointer (some ⟨tb, 0, none⟩), .agg (m12 P n X).toArray] w fun e w' => e = .returned (.agg (n12 (o12 P X)).toArray) ∧ Below w.heap.size w w' := by
  have hT := hide hT
  go_enter Try.func85, Try.ntmps85
  have hq0 := hide (St.start w)
  go_upto_region 1 with (first
    | ((with_reducible refine boxS (o := ⟨some 3, _, _, _, _, _⟩) ?_ 127 (.tmp 1) ?_ hq0.out (m12 P n X) ?_ ?_); rfl; rfl; rfl; intro wq1 b3 hS; have hq1 : Hid (St w wq1 [⟨b3, 127, m12 P n X⟩]) := hide hS; clear hS)
    | ((with_reducible refine allocS (o := ⟨some 4, _, _, _, _, _⟩) ?_ 64 ?_ hq1.out (z0 72) Try.zrF12 ?_); rfl; rfl; intro wq2 b4 hS; have hq2 : Hid (St w wq2 [⟨b3, 127, m12 P n X⟩, ⟨b4, 64, z0 72⟩]) := hide hS; clear hS))
  have hS0 := hq2
  clear hq0 hq1 hq2
  go_upto_region 1 with fail
  refine region_do 9 14 [fun v _ => v = .pointer (some ⟨tb, 0, none⟩), fun v _ => v = .pointer (some ⟨b3, 0, none⟩), fun v _ => v = .agg (m6 P n X.a).toArray, fun v _ => v = .agg (n6 (o6 P X.a)).toArray, fun v _ => v = .pointer (some ⟨tb, 0, none⟩), fun v _ => v = .pointer (some ⟨b3, 36, none⟩), fun v _ => v = .agg (m6 P n X.b).toArray, fun v _ => v = .agg (n6 (o6 P X.b)).toArray, fun v _ => v = .agg (n12 (⟨o6 P X.a, o6 P X.b⟩)).toArray]
    [(0, .pointer (some ⟨tb, 0, none⟩)), (3, .pointer (some ⟨b3, 0, none⟩))] (fun w' => St w w' [⟨b3, 127, m12 P n X⟩, ⟨b4, 64, z0 72⟩] ∧ TW w' tb bf bt bm P n size N fr) (fun w' => True) 999 none (by kernel_rfl) (by kernel_rfl) rfl rfl
    (.cons (Fact.eq _) rfl (.cons (Fact.eq _) rfl (.cons (Fact.eq _) rfl (.cons (Fact.eq _) rfl (.cons (Fact.eq _) rfl (.cons (Fact.eq _) rfl (.cons (Fact.eq _) rfl (.cons (Fact.eq _) rfl (.cons (Fact.eq _) rfl (.nil _)))))))))) (fun w' h => ⟨hS0.out.next h, hT.out.next (hS0.out.next h).bl⟩) (fun w' h => trivial) (by kernel_rfl) (by exact ⟨rfl, rfl, trivial⟩) (.cons ?_ (.cons ?_ (.cons ?_ (.cons ?_ (.cons ?_ (.cons ?_ (.cons ?_ (.cons ?_ (.cons ?_ .nil))))))))) ?_
  · refine Obl.plain rfl _ rfl rfl [] (by kernel_rfl) fun a W hF hC hD K hK => ?_
    have e0 : a.tmps.getD 0 undef = .pointer (some ⟨tb, 0, none⟩) := hF.1
    clear hF hD hC
    exact wp_move (.tmp 0) rfl e0 (hK _ _ rfl (Below.refl _ _))
  · refine Obl.plain rfl _ rfl rfl [] (by kernel_rfl) fun a W hF hC hD K hK => ?_
    have e3 : a.tmps.getD 3 undef = .pointer (some ⟨b3, 0, none⟩) := hF.2.1
    clear hF hD hC
    exact wp_idx (.tmp 3) (.const (.int .i64 0)) rfl e3 0 rfl Try.underlying127 Try.szE6 (by decide) (hK _ _ rfl (Below.refl _ _))
  · refine Obl.plain rfl _ rfl rfl [1] (by kernel_rfl) fun a W hF hC hD K hK => ?_
    obtain ⟨c1, c2⟩ := hC
    have e6 : a.tmps.getD 6 undef = .pointer (some ⟨b3, 0, none⟩) := hD.1
    clear hF hD
    exact wpLd 125 (.tmp 6) rfl (c1.vb 0 _ rfl) 0 e6 (m6 P n X.a) (part0 _ _ (m6_len P n _)) (m6_len P n _) Try.underlying125 rfl Try.szE6 (hK _ _ rfl (Below.refl _ _))
  · refine Obl.plain rfl _ rfl rfl [0, 2] (by kernel_rfl) fun a W hF hC hD K hK => ?_
    obtain ⟨c1, c2⟩ := hC
    have e5 : a.tmps.getD 5 undef = .pointer (some ⟨tb, 0, none⟩) := hD.1
    have e7 : a.tmps.getD 7 undef = .agg (m6 P n X.a).toArray := hD.2.1
    clear hF hD
    exact wp_callV #[a.tmps.getD 5 undef, a.tmps.getD 7 undef] #[.pointer (some ⟨tb, 0, none⟩), .agg (m6 P n X.a).toArray] (.agg (n6 (o6 P X.a)).toArray) (by kernel_rfl) (by rw [e5, e7]) (wout6 X.a c2) (fun w' hb => hK _ _ rfl hb)
  · refine Obl.plain rfl _ rfl rfl [] (by kernel_rfl) fun a W hF hC hD K hK => ?_
    have e0 : a.tmps.getD 0 undef = .pointer (some ⟨tb, 0, none⟩) := hF.1
    clear hF hD hC
    exact wp_move (.tmp 0) rfl e0 (hK _ _ rfl (Below.refl _ _))
  · refine Obl.plain rfl _ rfl rfl [] (by kernel_rfl) fun a W hF hC hD K hK => ?_
    have e3 : a.tmps.getD 3 undef = .pointer (some ⟨b3, 0, none⟩) := hF.2.1
    clear hF hD hC
    exact wp_idx (.tmp 3) (.const (.int .i64 1)) rfl e3 1 rfl Try.underlying127 Try.szE6 (by decide) (hK _ _ rfl (Below.refl _ _))
  · refine Obl.plain rfl _ rfl rfl [5] (by kernel_rfl) fun a W hF hC hD K hK => ?_
    obtain ⟨c1, c2⟩ := hC
    have e10 : a.tmps.getD 10 undef = .pointer (some ⟨b3, 36, none⟩) := hD.1
    clear hF hD
    exact wpLd 125 (.tmp 10) rfl (c1.vb 0 _ rfl) 36 e10 (m6 P n X.b) (part1 _ _ (m6_len P n _) (m6_len P n _)) (m6_len P n _) Try.underlying125 rfl Try.szE6 (hK _ _ rfl (Below.refl _ _))
  · refine Obl.plain rfl _ rfl rfl [4, 6, 3] (by kernel_rfl) fun a W hF hC hD K hK => ?_
    obtain ⟨c1, c2⟩ := hC
    have e9 : a.tmps.getD 9 undef = .pointer (some ⟨tb, 0, none⟩) := hD.1
    have e11 : a.tmps.getD 11 undef = .agg (m6 P n X.b).toArray := hD.2.1
    clear hF hD
    exact wp_callV #[a.tmps.getD 9 undef, a.tmps.getD 11 undef] #[.pointer (some ⟨tb, 0, none⟩), .agg (m6 P n X.b).toArray] (.agg (n6 (o6 P X.b)).toArray) (by kernel_rfl) (by rw [e9, e11]) (wout6 X.b c2) (fun w' hb => hK _ _ rfl hb)
  · refine Obl.plain rfl _ rfl rfl [3, 7] (by kernel_rfl) fun a W hF hC hD K hK => ?_
    have e8 : a.tmps.getD 8 undef = .agg (n6 (o6 P X.a)).toArray := hD.1
    have e12 : a.tmps.getD 12 undef = .agg (n6 (o6 P X.b)).toArray := hD.2.1
    clear hF hD hC
    exact wp_bld2 (.tmp 8) (.tmp 12) rfl e8 e12 Try.underlying64 Try.szF6 Try.zrF12 (n6_len _) (n6_len _) rfl (hK _ _ rfl (Below.refl _ _))
  rintro w1 hB hC _ rfl _ rfl _ rfl _ rfl _ rfl _ rfl _ rfl _ rfl _ rfl
  change Below _ _ _ at hB
  change wpList _ _ _ _ _ _
  simp only [List.drop_succ_cons, List.drop_zero, Act.put, List.setIfInBounds_toArray, List.set_cons_zero, List.set_cons_succ]
  have hS1 := hide (hS0.out.next hB)
  clear hB hC hS0
  go_wp2_with ((with_reducible refine storeWS (n := 72) (o := ⟨none, _, _, _, _, _⟩) ?_ 64 (.tmp 4) (.tmp 13) ?_ hS1.out 1 (c := ⟨b4, 64, z0 72⟩) ?_ ?_ (n12 (⟨o6 P X.a, o6 P X.b⟩)) ?_ ?_ ?_ ?_ Try.szF12 ?_); rfl; rfl; rfl; rfl; rfl; rfl; rfl; rfl; intro wz hZ hO)
  exact retS rfl hZ 1 (c := ⟨b4, 64, n12 (⟨o6 P X.a, o6 P X.b⟩)⟩) rfl rfl Try.underlying64 rfl Try.szF12 rfl ⟨rfl, hZ.bl⟩

set_option maxRecDepth 100000 in
set_option maxHeartbeats 3200000 in
theorem wmul2 {tb bf bt bm P n size : Nat} {N : Int} {fr : List Value} {w : World} (x : N2) (y : N2) (hT : TW w tb bf bt bm P n size N fr) (hx : n2ok x) (hy : n2ok y) :
    Calls Try.prog 49 #[.pointer (some ⟨tb, 0, none⟩), .agg (n2 x).toArray, .agg (n2 y).toArray] w fun e w' => e = .returned (.agg (n2 (o2 P (Z2.mul (i2 x) (i2 y)))).toArray) ∧ Below w.heap.size w w' := by
  have hT := hide hT
  have hx := hide hx
  have hy := hide hy
  go_enter Try.func49, Try.ntmps49
  have hq0 := hide (St.start w)
  go_upto_region 1 with (first
    | ((with_reducible refine boxS (o := ⟨some 4, _, _, _, _, _⟩) ?_ 60 (.tmp 1) ?_ hq0.out (n2 x) ?_ ?_); rfl; rfl; rfl; intro wq1 b4 hS; have hq1 : Hid (St w wq1 [⟨b4, 60, n2 x⟩]) := hide hS; clear hS)
    | ((with_reducible refine boxS (o := ⟨some 5, _, _, _, _, _⟩) ?_ 60 (.tmp 2) ?_ hq1.out (n2 y) ?_ ?_); rfl; rfl; rfl; intro wq2 b5 hS; have hq2 : Hid (St w wq2 [⟨b4, 60, n2 x⟩, ⟨b5, 60, n2 y⟩]) := hide hS; clear hS)
    | ((with_reducible refine allocS (o := ⟨some 6, _, _, _, _, _⟩) ?_ 60 ?_ hq2.out (z0 12) Try.zrF2' ?_); rfl; rfl; intro wq3 b6 hS; have hq3 : Hid (St w wq3 [⟨b4, 60, n2 x⟩, ⟨b5, 60, n2 y⟩, ⟨b6, 60, z0 12⟩]) := hide hS; clear hS))
  have hS0 := hq3
  clear hq0 hq1 hq2 hq3
  go_upto_region 1 with fail
  refine region_do 13 20 [fun v _ => v = .pointer (some ⟨tb, 0, none⟩), fun v _ => v = .pointer (some ⟨tb, 0, none⟩), fun v _ => v = .pointer (some ⟨tb, 0, none⟩), fun v _ => v = .pointer (some ⟨tb, 1, none⟩), fun v _ => v = .pointer (some ⟨bt, 0, none⟩), fun v _ => v = .pointer (some ⟨tb, 0, none⟩), fun v _ => v = .agg (n2 x).toArray, fun v _ => v = .agg (m2 P n (i2 x)).toArray, fun v _ => v = .pointer (some ⟨tb, 0, none⟩), fun v _ => v = .agg (n2 y).toArray, fun v _ => v = .agg (m2 P n (i2 y)).toArray, fun v _ => v = .agg (m2 P n (Z2.mul (i2 x) (i2 y))).toArray, fun v _ => v = .agg (n2 (o2 P (Z2.mul (i2 x) (i2 y)))).toArray]
    [(0, .pointer (some ⟨tb, 0, none⟩)), (4, .pointer (some ⟨b4, 0, none⟩)), (5, .pointer (some ⟨b5, 0, none⟩))] (fun w' => St w w' [⟨b4, 60, n2 x⟩, ⟨b5, 60, n2 y⟩, ⟨b6, 60, z0 12⟩] ∧ TW w' tb bf bt bm P n size N fr) (fun w' => True) 999 none (by kernel_rfl) (by kernel_rfl) rfl rfl
    (.cons (Fact.eq _) rfl (.cons (Fact.eq _) rfl (.cons (Fact.eq _) rfl (.cons (Fact.eq _) rfl (.cons (Fact.eq _) rfl (.cons (Fact.eq _) rfl (.cons (Fact.eq _) rfl (.cons (Fact.eq _) rfl (.cons (Fact.eq _) rfl (.cons (Fact.eq _) rfl (.cons (Fact.eq _) rfl (.cons (Fact.eq _) rfl (.cons (Fact.eq _) rfl (.nil _)))))))))))))) (fun w' h => ⟨hS0.out.next h, hT.out.next (hS0.out.next h).bl⟩) (fun w' h => trivial) (by kernel_rfl) (by exact ⟨rfl, rfl, rfl, trivial⟩) (.cons ?_ (.cons ?_ (.cons ?_ (.cons ?_ (.cons ?_ (.cons ?_ (.cons ?_ (.cons ?_ (.cons ?_ (.cons ?_ (.cons ?_ (.cons ?_ (.cons ?_ .nil))))))))))))) ?_
  · refine Obl.plain rfl _ rfl rfl [] (by kernel_rfl) fun a W hF hC hD K hK => ?_
    have e0 : a.tmps.getD 0 undef = .pointer (some ⟨tb, 0, none⟩) := hF.1
    clear hF hD hC
    exact wp_move (.tmp 0) rfl e0 (hK _ _ rfl (Below.refl _ _))
  · refine Obl.plain rfl _ rfl rfl [] (by kernel_rfl) fun a W hF hC hD K hK => ?_
    have e0 : a.tmps.getD 0 undef = .pointer (some ⟨tb, 0, none⟩) := hF.1
    clear hF hD hC
    exact wp_move (.tmp 0) rfl e0 (hK _ _ rfl (Below.refl _ _))
  · refine Obl.plain rfl _ rfl rfl [1] (by kernel_rfl) fun a W hF hC hD K hK => ?_
    have e8 : a.tmps.getD 8 undef = .pointer (some ⟨tb, 0, none⟩) := hD.1
    clear hF hD hC
    exact wp_nil (.tmp 8) rfl e8 (hK _ _ rfl (Below.refl _ _))
  · refine Obl.plain rfl _ rfl rfl [2] (by kernel_rfl) fun a W hF hC hD K hK => ?_
    have e9 : a.tmps.getD 9 undef = .pointer (some ⟨tb, 0, none⟩) := hD.1
    clear hF hD hC
    exact wp_fld (.tmp 9) rfl e9 (Try.fldW1 _ W) (hK _ _ rfl (Below.refl _ _))
  · refine Obl.plain rfl _ rfl rfl [3] (by kernel_rfl) fun a W hF hC hD K hK => ?_
    obtain ⟨c1, c2⟩ := hC
    have e10 : a.tmps.getD 10 undef = .pointer (some ⟨tb, 1, none⟩) := hD.1
    clear hF hD
    exact wp_ptr (.tmp 10) rfl e10 c2.cell1 Try.aggT (hK _ _ rfl (Below.refl _ _))
  · refine Obl.plain rfl _ rfl rfl [] (by kernel_rfl) fun a W hF hC hD K hK => ?_
    have e0 : a.tmps.getD 0 undef = .pointer (some ⟨tb, 0, none⟩) := hF.1
    clear hF hD hC
    exact wp_move (.tmp 0) rfl e0 (hK _ _ rfl (Below.refl _ _))
  · refine Obl.plain rfl _ rfl rfl [] (by kernel_rfl) fun a W hF hC hD K hK => ?_
    obtain ⟨c1, c2⟩ := hC
    have e4 : a.tmps.getD 4 undef = .pointer (some ⟨b4, 0, none⟩) := hF.2.1
    clear hF hD
    exact wpLd 60 (.tmp 4) rfl (c1.vb 0 _ rfl) 0 e4 (n2 x) (part_all _ (n2_len _)) (n2_len _) Try.underlying60 rfl Try.szF2' (hK _ _ rfl (Below.refl _ _))
  · refine Obl.plain rfl _ rfl rfl [5, 6] (by kernel_rfl) fun a W hF hC hD K hK => ?_
    obtain ⟨c1, c2⟩ := hC
    have e12 : a.tmps.getD 12 undef = .pointer (some ⟨tb, 0, none⟩) := hD.1
    have e13 : a.tmps.getD 13 undef = .agg (n2 x).toArray := hD.2.1
    clear hF hD
    exact wp_callV #[a.tmps.getD 12 undef, a.tmps.getD 13 undef] #[.pointer (some ⟨tb, 0, none⟩), .agg (n2 x).toArray] (.agg (m2 P n (i2 x)).toArray) (by kernel_rfl) (by rw [e12, e13]) (win2 x c2 hx.out) (fun w' hb => hK _ _ rfl hb)
  · refine Obl.plain rfl _ rfl rfl [] (by kernel_rfl) fun a W hF hC hD K hK => ?_
    have e0 : a.tmps.getD 0 undef = .pointer (some ⟨tb, 0, none⟩) := hF.1
    clear hF hD hC
    exact wp_move (.tmp 0) rfl e0 (hK _ _ rfl (Below.refl _ _))
  · refine Obl.plain rfl _ rfl rfl [] (by kernel_rfl) fun a W hF hC hD K hK => ?_
    obtain ⟨c1, c2⟩ := hC
    have e5 : a.tmps.getD 5 undef = .pointer (some ⟨b5, 0, none⟩) := hF.2.2.1
    clear hF hD
    exact wpLd 60 (.tmp 5) rfl (c1.vb 1 _ rfl) 0 e5 (n2 y) (part_all _ (n2_len _)) (n2_len _) Try.underlying60 rfl Try.szF2' (hK _ _ rfl (Below.refl _ _))
  · refine Obl.plain rfl _ rfl rfl [8, 9, 7] (by kernel_rfl) fun a W hF hC hD K hK => ?_
    obtain ⟨c1, c2⟩ := hC
    have e15 : a.tmps.getD 15 undef = .pointer (some ⟨tb, 0, none⟩) := hD.1
    have e16 : a.tmps.getD 16 undef = .agg (n2 y).toArray := hD.2.1
    clear hF hD
    exact wp_callV #[a.tmps.getD 15 undef, a.tmps.getD 16 undef] #[.pointer (some ⟨tb, 0, none⟩), .agg (n2 y).toArray] (.agg (m2 P n (i2 y)).toArray) (by kernel_rfl) (by rw [e15, e16]) (win2 y c2 hy.out) (fun w' hb => hK _ _ rfl hb)
  · refine Obl.plain rfl _ rfl rfl [4, 7, 10, 10] (by kernel_rfl) fun a W hF hC hD K hK => ?_
    obtain ⟨c1, c2⟩ := hC
    have e11 : a.tmps.getD 11 undef = .pointer (some ⟨bt, 0, none⟩) := hD.1
    have e14 : a.tmps.getD 14 undef = .agg (m2 P n (i2 x)).toArray := hD.2.1
    have e17 : a.tmps.getD 17 undef = .agg (m2 P n (i2 y)).toArray := hD.2.2.1
    clear hF hD
    exact wp_callV #[a.tmps.getD 11 undef, a.tmps.getD 14 undef, a.tmps.getD 17 undef] #[.pointer (some ⟨bt, 0, none⟩), .agg (m2 P n (i2 x)).toArray, .agg (m2 P n (i2 y)).toArray] (.agg (m2 P n (Z2.mul (i2 x) (i2 y))).toArray) (by kernel_rfl) (by rw [e11, e14, e17]) (xmul2 (i2 x) (i2 y) c2.tb c2.fq.inv) (fun w' hb => hK _ _ rfl hb)
  · refine Obl.plain rfl _ rfl rfl [0, 11, 11] (by kernel_rfl) fun a W hF hC hD K hK => ?_
    obtain ⟨c1, c2⟩ := hC
    have e7 : a.tmps.getD 7 undef = .pointer (some ⟨tb, 0, none⟩) := hD.1
    have e18 : a.tmps.getD 18 undef = .agg (m2 P n (Z2.mul (i2 x) (i2 y))).toArray := hD.2.1
    clear hF hD
    exact wp_callV #[a.tmps.getD 7 undef, a.tmps.getD 18 undef] #[.pointer (some ⟨tb, 0, none⟩), .agg (m2 P n (Z2.mul (i2 x) (i2 y))).toArray] (.agg (n2 (o2 P (Z2.mul (i2 x) (i2 y)))).toArray) (by kernel_rfl) (by rw [e7, e18]) (wout2 (Z2.mul (i2 x) (i2 y)) c2) (fun w' hb => hK _ _ rfl hb)
  rintro w1 hB hC _ rfl _ rfl _ rfl _ rfl _ rfl _ rfl _ rfl _ rfl _ rfl _ rfl _ rfl _ rfl _ rfl
  change Below _ _ _ at hB
  change wpList _ _ _ _ _ _
  simp only [List.drop_succ_cons, List.drop_zero, Act.put, List.setIfInBounds_toArray, List.set_cons_zero, List.set_cons_succ]
  have hS1 := hide (hS0.out.next hB)
  clear hB hC hS0
  go_wp2_with ((with_reducible refine storeWS (n := 12) (o := ⟨none, _, _, _, _, _⟩) ?_ 60 (.tmp 6) (.tmp 19) ?_ hS1.out 2 (c := ⟨b6, 60, z0 12⟩) ?_ ?_ (n2 (o2 P (Z2.mul (i2 x) (i2 y)))) ?_ ?_ ?_ ?_ Try.szF2' ?_); rfl; rfl; rfl; rfl; rfl; rfl; rfl; rfl; intro wz hZ hO)
  exact retS rfl hZ 2 (c := ⟨b6, 60, n2 (o2 P (Z2.mul (i2 x) (i2 y)))⟩) rfl rfl Try.underlying60 rfl Try.szF2' rfl ⟨rfl, hZ.bl⟩

set_option maxRecDepth 100000 in
set_option maxHeartbeats 3200000 in
theorem wmul6 {tb bf bt bm P n size : Nat} {N : Int} {fr : List Value} {w : World} (x : N6) (y : N6) (hT : TW w tb bf bt bm P n size N fr) (hx : n6ok x) (hy : n6ok y) :
    Calls Try.prog 46 #[.pointer (some ⟨tb, 0, none⟩), .agg (n6 x).toArray, .agg (n6 y).toArray] w fun e w' => e = .returned (.agg (n6 (o6 P (Z6.mul N (i6 x) (i6 y)))).toArray) ∧ Below w.heap.size w w' := by
  have hT := hide hT
  have hx := hide hx
  have hy := hide hy
  go_enter Try.func46, Try.ntmps46
  have hq0 := hide (St.start w)
  go_upto_region 1 with (first
    | ((with_reducible refine boxS (o := ⟨some 4, _, _, _, _, _⟩) ?_ 62 (.tmp 1) ?_ hq0.out (n6 x) ?_ ?_); rfl; rfl; rfl; intro wq1 b4 hS; have hq1 : Hid (St w wq1 [⟨b4, 62, n6 x⟩]) := hide hS; clear hS)
    | ((with_reducible refine boxS (o := ⟨some 5, _, _, _, _, _⟩) ?_ 62 (.tmp 2) ?_ hq1.out (n6 y) ?_ ?_); rfl; rfl; rfl; intro wq2 b5 hS; have hq2 : Hid (St w wq2 [⟨b4, 62, n6 x⟩, ⟨b5, 62, n6 y⟩]) := hide hS; clear hS)
    | ((with_reducible refine allocS (o := ⟨some 6, _, _, _, _, _⟩) ?_ 62 ?_ hq2.out (z0 36) Try.zrF6 ?_); rfl; rfl; intro wq3 b6 hS; have hq3 : Hid (St w wq3 [⟨b4, 62, n6 x⟩, ⟨b5, 62, n6 y⟩, ⟨b6, 62, z0 36⟩]) := hide hS; clear hS))
  have hS0 := hq3
  clear hq0 hq1 hq2 hq3
  go_upto_region 1 with fail
  refine region_do 13 20 [fun v _ => v = .pointer (some ⟨tb, 0, none⟩), fun v _ => v = .pointer (some ⟨tb, 0, none⟩), fun v _ => v = .pointer (some ⟨tb, 0, none⟩), fun v _ => v = .pointer (some ⟨tb, 1, none⟩), fun v _ => v = .pointer (some ⟨bt, 0, none⟩), fun v _ => v = .pointer (some ⟨tb, 0, none⟩), fun v _ => v = .agg (n6 x).toArray, fun v _ => v = .agg (m6 P n (i6 x)).toArray, fun v _ => v = .pointer (some ⟨tb, 0, none⟩), fun v _ => v = .agg (n6 y).toArray, fun v _ => v = .agg (m6 P n (i6 y)).toArray, fun v _ => v = .agg (m6 P n (Z6.mul N (i6 x) (i6 y))).toArray, fun v _ => v = .agg (n6 (o6 P (Z6.mul N (i6 x) (i6 y)))).toArray]
    [(0, .pointer (some ⟨tb, 0, none⟩)), (4, .pointer (some ⟨b4, 0, none⟩)), (5, .pointer (some ⟨b5, 0, none⟩))] (fun w' => St w w' [⟨b4, 62, n6 x⟩, ⟨b5, 62, n6 y⟩, ⟨b6, 62, z0 36⟩] ∧ TW w' tb bf bt bm P n size N fr) (fun w' => True) 999 none (by kernel_rfl) (by kernel_rfl) rfl rfl
    (.cons (Fact.eq _) rfl (.cons (Fact.eq _) rfl (.cons (Fact.eq _) rfl (.cons (Fact.eq _) rfl (.cons (Fact.eq _) rfl (.cons (Fact.eq _) rfl (.cons (Fact.eq _) rfl (.cons (Fact.eq _) rfl (.cons (Fact.eq _) rfl (.cons (Fact.eq _) rfl (.cons (Fact.eq _) rfl (.cons (Fact.eq _) rfl (.cons (Fact.eq _) rfl (.nil _)))))))))))))) (fun w' h => ⟨hS0.out.next h, hT.out.next (hS0.out.next h).bl⟩) (fun w' h => trivial) (by kernel_rfl) (by exact ⟨rfl, rfl, rfl, trivial⟩) (.cons ?_ (.cons ?_ (.cons ?_ (.cons ?_ (.cons ?_ (.cons ?_ (.cons ?_ (.cons ?_ (.cons ?_ (.cons ?_ (.cons ?_ (.cons ?_ (.cons ?_ .nil))))))))))))) ?_
  · refine Obl.plain rfl _ rfl rfl [] (by kernel_rfl) fun a W hF hC hD K hK => ?_
    have e0 : a.tmps.getD 0 undef = .pointer (some ⟨tb, 0, none⟩) := hF.1
    clear hF hD hC
    exact wp_move (.tmp 0) rfl e0 (hK _ _ rfl (Below.refl _ _))
  · refine Obl.plain rfl _ rfl rfl [] (by kernel_rfl) fun a W hF hC hD K hK => ?_
    have e0 : a.tmps.getD 0 undef = .pointer (some ⟨tb, 0, none⟩) := hF.1
    clear hF hD hC
    exact wp_move (.tmp 0) rfl e0 (hK _ _ rfl (Below.refl _ _))
  · refine Obl.plain rfl _ rfl rfl [1] (by kernel_rfl) fun a W hF hC hD K hK => ?_
    have e8 : a.tmps.getD 8 undef = .pointer (some ⟨tb, 0, none⟩) := hD.1
    clear hF hD hC
    exact wp_nil (.tmp 8) rfl e8 (hK _ _ rfl (Below.refl _ _))
  · refine Obl.plain rfl _ rfl rfl [2] (by kernel_rfl) fun a W hF hC hD K hK => ?_
    have e9 : a.tmps.getD 9 undef = .pointer (some ⟨tb, 0, none⟩) := hD.1
    clear hF hD hC
    exact wp_fld (.tmp 9) rfl e9 (Try.fldW1 _ W) (hK _ _ rfl (Below.refl _ _))
  · refine Obl.plain rfl _ rfl rfl [3] (by kernel_rfl) fun a W hF hC hD K hK => ?_
    obtain ⟨c1, c2⟩ := hC
    have e10 : a.tmps.getD 10 undef = .pointer (some ⟨tb, 1, none⟩) := hD.1
    clear hF hD
    exact wp_ptr (.tmp 10) rfl e10 c2.cell1 Try.aggT (hK _ _ rfl (Below.refl _ _))
  · refine Obl.plain rfl _ rfl rfl [] (by kernel_rfl) fun a W hF hC hD K hK => ?_
    have e0 : a.tmps.getD 0 undef = .pointer (some ⟨tb, 0, none⟩) := hF.1
    clear hF hD hC
    exact wp_move (.tmp 0) rfl e0 (hK _ _ rfl (Below.refl _ _))
  · refine Obl.plain rfl _ rfl rfl [] (by kernel_rfl) fun a W hF hC hD K hK => ?_
    obtain ⟨c1, c2⟩ := hC
    have e4 : a.tmps.getD 4 undef = .pointer (some ⟨b4, 0, none⟩) := hF.2.1
    clear hF hD
    exact wpLd 62 (.tmp 4) rfl (c1.vb 0 _ rfl) 0 e4 (n6 x) (part_all _ (n6_len _)) (n6_len _) Try.underlying62 rfl Try.szF6 (hK _ _ rfl (Below.refl _ _))
  · refine Obl.plain rfl _ rfl rfl [5, 6] (by kernel_rfl) fun a W hF hC hD K hK => ?_
    obtain ⟨c1, c2⟩ := hC
    have e12 : a.tmps.getD 12 undef = .pointer (some ⟨tb, 0, none⟩) := hD.1
    have e13 : a.tmps.getD 13 undef = .agg (n6 x).toArray := hD.2.1
    clear hF hD
    exact wp_callV #[a.tmps.getD 12 undef, a.tmps.getD 13 undef] #[.pointer (some ⟨tb, 0, none⟩), .agg (n6 x).toArray] (.agg (m6 P n (i6 x)).toArray) (by kernel_rfl) (by rw [e12, e13]) (win6 x c2 hx.out) (fun w' hb => hK _ _ rfl hb)
  · refine Obl.plain rfl _ rfl rfl [] (by kernel_rfl) fun a W hF hC hD K hK => ?_
    have e0 : a.tmps.getD 0 undef = .pointer (some ⟨tb, 0, none⟩) := hF.1
    clear hF hD hC
    exact wp_move (.tmp 0) rfl e0 (hK _ _ rfl (Below.refl _ _))
  · refine Obl.plain rfl _ rfl rfl [] (by kernel_rfl) fun a W hF hC hD K hK => ?_
    obtain ⟨c1, c2⟩ := hC
    have e5 : a.tmps.getD 5 undef = .pointer (some ⟨b5, 0, none⟩) := hF.2.2.1
    clear hF hD
    exact wpLd 62 (.tmp 5) rfl (c1.vb 1 _ rfl) 0 e5 (n6 y) (part_all _ (n6_len _)) (n6_len _) Try.underlying62 rfl Try.szF6 (hK _ _ rfl (Below.refl _ _))
  · refine Obl.plain rfl _ rfl rfl [8, 9, 7] (by kernel_rfl) fun a W hF hC hD K hK => ?_
    obtain ⟨c1, c2⟩ := hC
    have e15 : a.tmps.getD 15 undef = .pointer (some ⟨tb, 0, none⟩) := hD.1
    have e16 : a.tmps.getD 16 undef = .agg (n6 y).toArray := hD.2.1
    clear hF hD
    exact wp_callV #[a.tmps.getD 15 undef, a.tmps.getD 16 undef] #[.pointer (some ⟨tb, 0, none⟩), .agg (n6 y).toArray] (.agg (m6 P n (i6 y)).toArray) (by kernel_rfl) (by rw [e15, e16]) (win6 y c2 hy.out) (fun w' hb => hK _ _ rfl hb)
  · refine Obl.plain rfl _ rfl rfl [4, 7, 10, 10] (by kernel_rfl) fun a W hF hC hD K hK => ?_
    obtain ⟨c1, c2⟩ := hC
    have e11 : a.tmps.getD 11 undef = .pointer (some ⟨bt, 0, none⟩) := hD.1
    have e14 : a.tmps.getD 14 undef = .agg (m6 P n (i6 x)).toArray := hD.2.1
    have e17 : a.tmps.getD 17 undef = .agg (m6 P n (i6 y)).toArray := hD.2.2.1
    clear hF hD
    exact wp_callV #[a.tmps.getD 11 undef, a.tmps.getD 14 undef, a.tmps.getD 17 undef] #[.pointer (some ⟨bt, 0, none⟩), .agg (m6 P n (i6 x)).toArray, .agg (m6 P n (i6 y)).toArray] (.agg (m6 P n (Z6.mul N (i6 x) (i6 y))).toArray) (by kernel_rfl) (by rw [e11, e14, e17]) (xmul6 (i6 x) (i6 y) c2.tb c2.fq.inv) (fun w' hb => hK _ _ rfl hb)
  · refine Obl.plain rfl _ rfl rfl [0, 11, 11] (by kernel_rfl) fun a W hF hC hD K hK => ?_
    obtain ⟨c1, c2⟩ := hC
    have e7 : a.tmps.getD 7 undef = .pointer (some ⟨tb, 0, none⟩) := hD.1
    have e18 : a.tmps.getD 18 undef = .agg (m6 P n (Z6.mul N (i6 x) (i6 y))).toArray := hD.2.1
    clear hF hD
    exact wp_callV #[a.tmps.getD 7 undef, a.tmps.getD 18 undef] #[.pointer (some ⟨tb, 0, none⟩), .agg (m6 P n (Z6.mul N (i6 x) (i6 y))).toArray] (.agg (n6 (o6 P (Z6.mul N (i6 x) (i6 y)))).toArray) (by kernel_rfl) (by rw [e7, e18]) (wout6 (Z6.mul N (i6 x) (i6 y)) c2) (fun w' hb => hK _ _ rfl hb)
  rintro w1 hB hC _ rfl _ rfl _ rfl _ rfl _ rfl _ rfl _ rfl _ rfl _ rfl _ rfl _ rfl _ rfl _ rfl
  change Below _ _ _ at hB
  change wpList _ _ _ _ _ _
  simp only [List.drop_succ_cons, List.drop_zero, Act.put, List.setIfInBounds_toArray, List.set_cons_zero, List.set_cons_succ]
  have hS1 := hide (hS0.out.next hB)
  clear hB hC hS0
  go_wp2_with ((with_reducible refine storeWS (n := 36) (o := ⟨none, _, _, _, _, _⟩) ?_ 62 (.tmp 6) (.tmp 19) ?_ hS1.out 2 (c := ⟨b6, 62, z0 36⟩) ?_ ?_ (n6 (o6 P (Z6.mul N (i6 x) (i6 y)))) ?_ ?_ ?_ ?_ Try.szF6 ?_); rfl; rfl; rfl; rfl; rfl; rfl; rfl; rfl; intro wz hZ hO)
  exact retS rfl hZ 2 (c := ⟨b6, 62, n6 (o6 P (Z6.mul N (i6 x) (i6 y)))⟩) rfl rfl Try.underlying62 rfl Try.szF6 rfl ⟨rfl, hZ.bl⟩

set_option maxRecDepth 100000 in
set_option maxHeartbeats 3200000 in
theorem wmul12 {tb bf bt bm P n size : Nat} {N : Int} {fr : List Value} {w : World} (x : N12) (y : N12) (hT : TW w tb bf bt bm P n size N fr) (hx : n12ok x) (hy : n12ok y) :
    Calls Try.prog 42 #[.pointer (some ⟨tb, 0, none⟩), .agg (n12 x).toArray, .agg (n12 y).toArray] w fun e w' => e = .returned (.agg (n12 (o12 P (Z12.mul N (i12 x) (i12 y)))).toArray) ∧ Below w.heap.size w w' := by
  have hT := hide hT
  have hx := hide hx
  have hy := hide hy
  go_enter Try.func42, Try.ntmps42
  have hq0 := hide (St.start w)
  go_upto_region 1 with (first
    | ((with_reducible refine boxS (o := ⟨some 4, _, _, _, _, _⟩) ?_ 64 (.tmp 1) ?_ hq0.out (n12 x) ?_ ?_); rfl; rfl; rfl; intro wq1 b4 hS; have hq1 : Hid (St w wq1 [⟨b4, 64, n12 x⟩]) := hide hS; clear hS)
    | ((with_reducible refine boxS (o := ⟨some 5, _, _, _, _, _⟩) ?_ 64 (.tmp 2) ?_ hq1.out (n12 y) ?_ ?_); rfl; rfl; rfl; intro wq2 b5 hS; have hq2 : Hid (St w wq2 [⟨b4, 64, n12 x⟩, ⟨b5, 64, n12 y⟩]) := hide hS; clear hS)
    | ((with_reducible refine allocS (o := ⟨some 6, _, _, _, _, _⟩) ?_ 64 ?_ hq2.out (z0 72) Try.zrF12 ?_); rfl; rfl; intro wq3 b6 hS; have hq3 : Hid (St w wq3 [⟨b4, 64, n12 x⟩, ⟨b5, 64, n12 y⟩, ⟨b6, 64, z0 72⟩]) := hide hS; clear hS))
  have hS0 := hq3
  clear hq0 hq1 hq2 hq3
  go_upto_region 1 with fail
  refine region_do 13 20 [fun v _ => v = .pointer (some ⟨tb, 0, none⟩), fun v _ => v = .pointer (some ⟨tb, 0, none⟩), fun v _ => v = .pointer (some ⟨tb, 0, none⟩), fun v _ => v = .pointer (some ⟨tb, 1, none⟩), fun v _ => v = .pointer (some ⟨bt, 0, none⟩), fun v _ => v = .pointer (some ⟨tb, 0, none⟩), fun v _ => v = .agg (n12 x).toArray, fun v _ => v = .agg (m12 P n (i12 x)).toArray, fun v _ => v = .pointer (some ⟨tb, 0, none⟩), fun v _ => v = .agg (n12 y).toArray, fun v _ => v = .agg (m12 P n (i12 y)).toArray, fun v _ => v = .agg (m12 P n (Z12.mul N (i12 x) (i12 y))).toArray, fun v _ => v = .agg (n12 (o12 P (Z12.mul N (i12 x) (i12 y)))).toArray]
    [(0, .pointer (some ⟨tb, 0, none⟩)), (4, .pointer (some ⟨b4, 0, none⟩)), (5, .pointer (some ⟨b5, 0, none⟩))] (fun w' => St w w' [⟨b4, 64, n12 x⟩, ⟨b5, 64, n12 y⟩, ⟨b6, 64, z0 72⟩] ∧ TW w' tb bf bt bm P n size N fr) (fun w' => True) 999 none (by kernel_rfl) (by kernel_rfl) rfl rfl
    (.cons (Fact.eq _) rfl (.cons (Fact.eq _) rfl (.cons (Fact.eq _) rfl (.cons (Fact.eq _) rfl (.cons (Fact.eq _) rfl (.cons (Fact.eq _) rfl (.cons (Fact.eq _) rfl (.cons (Fact.eq _) rfl (.cons (Fact.eq _) rfl (.cons (Fact.eq _) rfl (.cons (Fact.eq _) rfl (.cons (Fact.eq _) rfl (.cons (Fact.eq _) rfl (.nil _)))))))))))))) (fun w' h => ⟨hS0.out.next h, hT.out.next (hS0.out.next h).bl⟩) (fun w' h => trivial) (by kernel_rfl) (by exact ⟨rfl, rfl, rfl, trivial⟩) (.cons ?_ (.cons ?_ (.cons ?_ (.cons ?_ (.cons ?_ (.cons ?_ (.cons ?_ (.cons ?_ (.cons ?_ (.cons ?_ (.cons ?_ (.cons ?_ (.cons ?_ .nil))))))))))))) ?_
  · refine Obl.plain rfl _ rfl rfl [] (by kernel_rfl) fun a W hF hC hD K hK => ?_
    have e0 : a.tmps.getD 0 undef = .pointer (some ⟨tb, 0, none⟩) := hF.1
    clear hF hD hC
    exact wp_move (.tmp 0) rfl e0 (hK _ _ rfl (Below.refl _ _))
  · refine Obl.plain rfl _ rfl rfl [] (by kernel_rfl) fun a W hF hC hD K hK => ?_
    have e0 : a.tmps.getD 0 undef = .pointer (some ⟨tb, 0, none⟩) := hF.1
    clear hF hD hC
    exact wp_move (.tmp 0) rfl e0 (hK _ _ rfl (Below.refl _ _))
  · refine Obl.plain rfl _ rfl rfl [1] (by kernel_rfl) fun a W hF hC hD K hK => ?_
    have e8 : a.tmps.getD 8 undef = .pointer (some ⟨tb, 0, none⟩) := hD.1
    clear hF hD hC
    exact wp_nil (.tmp 8) rfl e8 (hK _ _ rfl (Below.refl _ _))
  · refine Obl.plain rfl _ rfl rfl [2] (by kernel_rfl) fun a W hF hC hD K hK => ?_
    have e9 : a.tmps.getD 9 undef = .pointer (some ⟨tb, 0, none⟩) := hD.1
    clear hF hD hC
    exact wp_fld (.tmp 9) rfl e9 (Try.fldW1 _ W) (hK _ _ rfl (Below.refl _ _))
  · refine Obl.plain rfl _ rfl rfl [3] (by kernel_rfl) fun a W hF hC hD K hK => ?_
    obtain ⟨c1, c2⟩ := hC
    have e10 : a.tmps.getD 10 undef = .pointer (some ⟨tb, 1, none⟩) := hD.1
    clear hF hD
    exact wp_ptr (.tmp 10) rfl e10 c2.cell1 Try.aggT (hK _ _ rfl (Below.refl _ _))
  · refine Obl.plain rfl _ rfl rfl [] (by kernel_rfl) fun a W hF hC hD K hK => ?_
    have e0 : a.tmps.getD 0 undef = .pointer (some ⟨tb, 0, none⟩) := hF.1
    clear hF hD hC
    exact wp_move (.tmp 0) rfl e0 (hK _ _ rfl (Below.refl _ _))
  · refine Obl.plain rfl _ rfl rfl [] (by kernel_rfl) fun a W hF hC hD K hK => ?_
    obtain ⟨c1, c2⟩ := hC
    have e4 : a.tmps.getD 4 undef = .pointer (some ⟨b4, 0, none⟩) := hF.2.1
    clear hF hD
    exact wpLd 64 (.tmp 4) rfl (c1.vb 0 _ rfl) 0 e4 (n12 x) (part_all _ (n12_len _)) (n12_len _) Try.underlying64 rfl Try.szF12 (hK _ _ rfl (Below.refl _ _))
  · refine Obl.plain rfl _ rfl rfl [5, 6] (by kernel_rfl) fun a W hF hC hD K hK => ?_
    obtain ⟨c1, c2⟩ := hC
    have e12 : a.tmps.getD 12 undef = .pointer (some ⟨tb, 0, none⟩) := hD.1
    have e13 : a.tmps.getD 13 undef = .agg (n12 x).toArray := hD.2.1
    clear hF hD
    exact wp_callV #[a.tmps.getD 12 undef, a.tmps.getD 13 undef] #[.pointer (some ⟨tb, 0, none⟩), .agg (n12 x).toArray] (.agg (m12 P n (i12 x)).toArray) (by kernel_rfl) (by rw [e12, e13]) (win12 x c2 hx.out) (fun w' hb => hK _ _ rfl hb)
  · refine Obl.plain rfl _ rfl rfl [] (by kernel_rfl) fun a W hF hC hD K hK => ?_
    have e0 : a.tmps.getD 0 undef = .pointer (some ⟨tb, 0, none⟩) := hF.1
    clear hF hD hC
    exact wp_move (.tmp 0) rfl e0 (hK _ _ rfl (Below.refl _ _))
  · refine Obl.plain rfl _ rfl rfl [] (by kernel_rfl) fun a W hF hC hD K hK => ?_
    obtain ⟨c1, c2⟩ := hC
    have e5 : a.tmps.getD 5 undef = .pointer (some ⟨b5, 0, none⟩) := hF.2.2.1
    clear hF hD
    exact wpLd 64 (.tmp 5) rfl (c1.vb 1 _ rfl) 0 e5 (n12 y) (part_all _ (n12_len _)) (n12_len _) Try.underlying64 rfl Try.szF12 (hK _ _ rfl (Below.refl _ _))
  · refine Obl.plain rfl _ rfl rfl [8, 9, 7] (by kernel_rfl) fun a W hF hC hD K hK => ?_
    obtain ⟨c1, c2⟩ := hC
    have e15 : a.tmps.getD 15 undef = .pointer (some ⟨tb, 0, none⟩) := hD.1
    have e16 : a.tmps.getD 16 undef = .agg (n12 y).toArray := hD.2.1
    clear hF hD
    exact wp_callV #[a.tmps.getD 15 undef, a.tmps.getD 16 undef] #[.pointer (some ⟨tb, 0, none⟩), .agg (n12 y).toArray] (.agg (m12 P n (i12 y)).toArray) (by kernel_rfl) (by rw [e15, e16]) (win12 y c2 hy.out) (fun w' hb => hK _ _ rfl hb)
  · refine Obl.plain rfl _ rfl rfl [4, 7, 10, 10] (by kernel_rfl) fun a W hF hC hD K hK => ?_
    obtain ⟨c1, c2⟩ := hC
    have e11 : a.tmps.getD 11 undef = .pointer (some ⟨bt, 0, none⟩) := hD.1
    have e14 : a.tmps.getD 14 undef = .agg (m12 P n (i12 x)).toArray := hD.2.1
    have e17 : a.tmps.getD 17 undef = .agg (m12 P n (i12 y)).toArray := hD.2.2.1
    clear hF hD
    exact wp_callV #[a.tmps.getD 11 undef, a.tmps.getD 14 undef, a.tmps.getD 17 undef] #[.pointer (some ⟨bt, 0, none⟩), .agg (m12 P n (i12 x)).toArray, .agg (m12 P n (i12 y)).toArray] (.agg (m12 P n (Z12.mul N (i12 x) (i12 y))).toArray) (by kernel_rfl) (by rw [e11, e14, e17]) (xmul12 (i12 x) (i12 y) c2.tb c2.fq.inv) (fun w' hb => hK _ _ rfl hb)
  · refine Obl.plain rfl _ rfl rfl [0, 11, 11] (by kernel_rfl) fun a W hF hC hD K hK => ?_
    obtain ⟨c1, c2⟩ := hC
    have e7 : a.tmps.getD 7 undef = .pointer (some ⟨tb, 0, none⟩) := hD.1
    have e18 : a.tmps.getD 18 undef = .agg (m12 P n (Z12.mul N (i12 x) (i12 y))).toArray := hD.2.1
    clear hF hD
    exact wp_callV #[a.tmps.getD 7 undef, a.tmps.getD 18 undef] #[.pointer (some ⟨tb, 0, none⟩), .agg (m12 P n (Z12.mul N (i12 x) (i12 y))).toArray] (.agg (n12 (o12 P (Z12.mul N (i12 x) (i12 y)))).toArray) (by kernel_rfl) (by rw [e7, e18]) (wout12 (Z12.mul N (i12 x) (i12 y)) c2) (fun w' hb => hK _ _ rfl hb)
  rintro w1 hB hC _ rfl _ rfl _ rfl _ rfl _ rfl _ rfl _ rfl _ rfl _ rfl _ rfl _ rfl _ rfl _ rfl
  change Below _ _ _ at hB
  change wpList _ _ _ _ _ _
  simp only [List.drop_succ_cons, List.drop_zero, Act.put, List.setIfInBounds_toArray, List.set_cons_zero, List.set_cons_succ]
  have hS1 := hide (hS0.out.next hB)
  clear hB hC hS0
  go_wp2_with ((with_reducible refine storeWS (n := 72) (o := ⟨none, _, _, _, _, _⟩) ?_ 64 (.tmp 6) (.tmp 19) ?_ hS1.out 2 (c := ⟨b6, 64, z0 72⟩) ?_ ?_ (n12 (o12 P (Z12.mul N (i12 x) (i12 y)))) ?_ ?_ ?_ ?_ Try.szF12 ?_); rfl; rfl; rfl; rfl; rfl; rfl; rfl; rfl; intro wz hZ hO)
  exact retS rfl hZ 2 (c := ⟨b6, 64, n12 (o12 P (Z12.mul N (i12 x) (i12 y)))⟩) rfl rfl Try.underlying64 rfl Try.szF12 rfl ⟨rfl, hZ.bl⟩

set_option maxRecDepth 100000 in
set_option maxHeartbeats 3200000 in
theorem wadd2 {tb bf bt bm P n size : Nat} {N : Int} {fr : List Value} {w : World} (x : N2) (y : N2) (hT : TW w tb bf bt bm P n size N fr) (hx : n2ok x) (hy : n2ok y) :
    Calls Try.prog 52 #[.pointer (some ⟨tb, 0, none⟩), .agg (n2 x).toArray, .agg (n2 y).toArray] w fun e w' => e = .returned (.agg (n2 (o2 P (Z2.add (i2 x) (i2 y)))).toArray) ∧ Below w.heap.size w w' := by
  have hT := hide hT
  have hx := hide hx
  have hy := hide hy
  go_enter Try.func52, Try.ntmps52
  have hq0 := hide (St.start w)
  go_upto_region 1 with (first
    | ((with_reducible refine boxS (o := ⟨some 4, _, _, _, _, _⟩) ?_ 60 (.tmp 1) ?_ hq0.out (n2 x) ?_ ?_); rfl; rfl; rfl; intro wq1 b4 hS; have hq1 : Hid (St w wq1 [⟨b4, 60, n2 x⟩]) := hide hS; clear hS)
    | ((with_reducible refine boxS (o := ⟨some 5, _, _, _, _, _⟩) ?_ 60 (.tmp 2) ?_ hq1.out (n2 y) ?_ ?_); rfl; rfl; rfl; intro wq2 b5 hS; have hq2 : Hid (St w wq2 [⟨b4, 60, n2 x⟩, ⟨b5, 60, n2 y⟩]) := hide hS; clear hS)
    | ((with_reducible refine allocS (o := ⟨some 6, _, _, _, _, _⟩) ?_ 60 ?_ hq2.out (z0 12) Try.zrF2' ?_); rfl; rfl; intro wq3 b6 hS; have hq3 : Hid (St w wq3 [⟨b4, 60, n2 x⟩, ⟨b5, 60, n2 y⟩, ⟨b6, 60, z0 12⟩]) := hide hS; clear hS))
  have hS0 := hq3
  clear hq0 hq1 hq2 hq3
  go_upto_region 1 with fail
  refine region_do 13 20 [fun v _ => v = .pointer (some ⟨tb, 0, none⟩), fun v _ => v = .pointer (some ⟨tb, 0, none⟩), fun v _ => v = .pointer (some ⟨tb, 0, none⟩), fun v _ => v = .pointer (some ⟨tb, 1, none⟩), fun v _ => v = .pointer (some ⟨bt, 0, none⟩), fun v _ => v = .pointer (some ⟨tb, 0, none⟩), fun v _ => v = .agg (n2 x).toArray, fun v _ => v = .agg (m2 P n (i2 x)).toArray, fun v _ => v = .pointer (some ⟨tb, 0, none⟩), fun v _ => v = .agg (n2 y).toArray, fun v _ => v = .agg (m2 P n (i2 y)).toArray, fun v _ => v = .agg (m2 P n (Z2.add (i2 x) (i2 y))).toArray, fun v _ => v = .agg (n2 (o2 P (Z2.add (i2 x) (i2 y)))).toArray]
    [(0, .pointer (some ⟨tb, 0, none⟩)), (4, .pointer (some ⟨b4, 0, none⟩)), (5, .pointer (some ⟨b5, 0, none⟩))] (fun w' => St w w' [⟨b4, 60, n2 x⟩, ⟨b5, 60, n2 y⟩, ⟨b6, 60, z0 12⟩] ∧ TW w' tb bf bt bm P n size N fr) (fun w' => True) 999 none (by kernel_rfl) (by kernel_rfl) rfl rfl
    (.cons (Fact.eq _) rfl (.cons (Fact.eq _) rfl (.cons (Fact.eq _) rfl (.cons (Fact.eq _) rfl (.cons (Fact.eq _) rfl (.cons (Fact.eq _) rfl (.cons (Fact.eq _) rfl (.cons (Fact.eq _) rfl (.cons (Fact.eq _) rfl (.cons (Fact.eq _) rfl (.cons (Fact.eq _) rfl (.cons (Fact.eq _) rfl (.cons (Fact.eq _) rfl (.nil _)))))))))))))) (fun w' h => ⟨hS0.out.next h, hT.out.next (hS0.out.next h).bl⟩) (fun w' h => trivial) (by kernel_rfl) (by exact ⟨rfl, rfl, rfl, trivial⟩) (.cons ?_ (.cons ?_ (.cons ?_ (.cons ?_ (.cons ?_ (.cons ?_ (.cons ?_ (.cons ?_ (.cons ?_ (.cons ?_ (.cons ?_ (.cons ?_ (.cons ?_ .nil))))))))))))) ?_
  · refine Obl.plain rfl _ rfl rfl [] (by kernel_rfl) fun a W hF hC hD K hK => ?_
    have e0 : a.tmps.getD 0 undef = .pointer (some ⟨tb, 0, none⟩) := hF.1
    clear hF hD hC
    exact wp_move (.tmp 0) rfl e0 (hK _ _ rfl (Below.refl _ _))
  · refine Obl.plain rfl _ rfl rfl [] (by kernel_rfl) fun a W hF hC hD K hK => ?_
    have e0 : a.tmps.getD 0 undef = .pointer (some ⟨tb, 0, none⟩) := hF.1
    clear hF hD hC
    exact wp_move (.tmp 0) rfl e0 (hK _ _ rfl (Below.refl _ _))
  · refine Obl.plain rfl _ rfl rfl [1] (by kernel_rfl) fun a W hF hC hD K hK => ?_
    have e8 : a.tmps.getD 8 undef = .pointer (some ⟨tb, 0, none⟩) := hD.1
    clear hF hD hC
    exact wp_nil (.tmp 8) rfl e8 (hK _ _ rfl (Below.refl _ _))
  · refine Obl.plain rfl _ rfl rfl [2] (by kernel_rfl) fun a W hF hC hD K hK => ?_
    have e9 : a.tmps.getD 9 undef = .pointer (some ⟨tb, 0, none⟩) := hD.1
    clear hF hD hC
    exact wp_fld (.tmp 9) rfl e9 (Try.fldW1 _ W) (hK _ _ rfl (Below.refl _ _))
  · refine Obl.plain rfl _ rfl rfl [3] (by kernel_rfl) fun a W hF hC hD K hK => ?_
    obtain ⟨c1, c2⟩ := hC
    have e10 : a.tmps.getD 10 undef = .pointer (some ⟨tb, 1, none⟩) := hD.1
    clear hF hD
    exact wp_ptr (.tmp 10) rfl e10 c2.cell1 Try.aggT (hK _ _ rfl (Below.refl _ _))
  · refine Obl.plain rfl _ rfl rfl [] (by kernel_rfl) fun a W hF hC hD K hK => ?_
    have e0 : a.tmps.getD 0 undef = .pointer (some ⟨tb, 0, none⟩) := hF.1
    clear hF hD hC
    exact wp_move (.tmp 0) rfl e0 (hK _ _ rfl (Below.refl _ _))
  · refine Obl.plain rfl _ rfl rfl [] (by kernel_rfl) fun a W hF hC hD K hK => ?_
    obtain ⟨c1, c2⟩ := hC
    have e4 : a.tmps.getD 4 undef = .pointer (some ⟨b4, 0, none⟩) := hF.2.1
    clear hF hD
    exact wpLd 60 (.tmp 4) rfl (c1.vb 0 _ rfl) 0 e4 (n2 x) (part_all _ (n2_len _)) (n2_len _) Try.underlying60 rfl Try.szF2' (hK _ _ rfl (Below.refl _ _))
  · refine Obl.plain rfl _ rfl rfl [5, 6] (by kernel_rfl) fun a W hF hC hD K hK => ?_
    obtain ⟨c1, c2⟩ := hC
    have e12 : a.tmps.getD 12 undef = .pointer (some ⟨tb, 0, none⟩) := hD.1
    have e13 : a.tmps.getD 13 undef = .agg (n2 x).toArray := hD.2.1
    clear hF hD
    exact wp_callV #[a.tmps.getD 12 undef, a.tmps.getD 13 undef] #[.pointer (some ⟨tb, 0, none⟩), .agg (n2 x).toArray] (.agg (m2 P n (i2 x)).toArray) (by kernel_rfl) (by rw [e12, e13]) (win2 x c2 hx.out) (fun w' hb => hK _ _ rfl hb)
  · refine Obl.plain rfl _ rfl rfl [] (by kernel_rfl) fun a W hF hC hD K hK => ?_
    have e0 : a.tmps.getD 0 undef = .pointer (some ⟨tb, 0, none⟩) := hF.1
    clear hF hD hC
    exact wp_move (.tmp 0) rfl e0 (hK _ _ rfl (Below.refl _ _))
  · refine Obl.plain rfl _ rfl rfl [] (by kernel_rfl) fun a W hF hC hD K hK => ?_
    obtain ⟨c1, c2⟩ := hC
    have e5 : a.tmps.getD 5 undef = .pointer (some ⟨b5, 0, none⟩) := hF.2.2.1
    clear hF hD
    exact wpLd 60 (.tmp 5) rfl (c1.vb 1 _ rfl) 0 e5 (n2 y) (part_all _ (n2_len _)) (n2_len _) Try.underlying60 rfl Try.szF2' (hK _ _ rfl (Below.refl _ _))
  · refine Obl.plain rfl _ rfl rfl [8, 9, 7] (by kernel_rfl) fun a W hF hC hD K hK => ?_
    obtain ⟨c1, c2⟩ := hC
    have e15 : a.tmps.getD 15 undef = .pointer (some ⟨tb, 0, none⟩) := hD.1
    have e16 : a.tmps.getD 16 undef = .agg (n2 y).toArray := hD.2.1
    clear hF hD
    exact wp_callV #[a.tmps.getD 15 undef, a.tmps.getD 16 undef] #[.pointer (some ⟨tb, 0, none⟩), .agg (n2 y).toArray] (.agg (m2 P n (i2 y)).toArray) (by kernel_rfl) (by rw [e15, e16]) (win2 y c2 hy.out) (fun w' hb => hK _ _ rfl hb)
  · refine Obl.plain rfl _ rfl rfl [4, 7, 10, 10] (by kernel_rfl) fun a W hF hC hD K hK => ?_
    obtain ⟨c1, c2⟩ := hC
    have e11 : a.tmps.getD 11 undef = .pointer (some ⟨bt, 0, none⟩) := hD.1
    have e14 : a.tmps.getD 14 undef = .agg (m2 P n (i2 x)).toArray := hD.2.1
    have e17 : a.tmps.getD 17 undef = .agg (m2 P n (i2 y)).toArray := hD.2.2.1
    clear hF hD
    exact wp_callV #[a.tmps.getD 11 undef, a.tmps.getD 14 undef, a.tmps.getD 17 undef] #[.pointer (some ⟨bt, 0, none⟩), .agg (m2 P n (i2 x)).toArray, .agg (m2 P n (i2 y)).toArray] (.agg (m2 P n (Z2.add (i2 x) (i2 y))).toArray) (by kernel_rfl) (by rw [e11, e14, e17]) (xadd2 (i2 x) (i2 y) c2.tb c2.fq.inv) (fun w' hb => hK _ _ rfl hb)
  · refine Obl.plain rfl _ rfl rfl [0, 11, 11] (by kernel_rfl) fun a W hF hC hD K hK => ?_
    obtain ⟨c1, c2⟩ := hC
    have e7 : a.tmps.getD 7 undef = .pointer (some ⟨tb, 0, none⟩) := hD.1
    have e18 : a.tmps.getD 18 undef = .agg (m2 P n (Z2.add (i2 x) (i2 y))).toArray := hD.2.1
    clear hF hD
    exact wp_callV #[a.tmps.getD 7 undef, a.tmps.getD 18 undef] #[.pointer (some ⟨tb, 0, none⟩), .agg (m2 P n (Z2.add (i2 x) (i2 y))).toArray] (.agg (n2 (o2 P (Z2.add (i2 x) (i2 y)))).toArray) (by kernel_rfl) (by rw [e7, e18]) (wout2 (Z2.add (i2 x) (i2 y)) c2) (fun w' hb => hK _ _ rfl hb)
  rintro w1 hB hC _ rfl _ rfl _ rfl _ rfl _ rfl _ rfl _ rfl _ rfl _ rfl _ rfl _ rfl _ rfl _ rfl
  change Below _ _ _ at hB
  change wpList _ _ _ _ _ _
  simp only [List.drop_succ_cons, List.drop_zero, Act.put, List.setIfInBounds_toArray, List.set_cons_zero, List.set_cons_succ]
  have hS1 := hide (hS0.out.next hB)
  clear hB hC hS0
  go_wp2_with ((with_reducible refine storeWS (n := 12) (o := ⟨none, _, _, _, _, _⟩) ?_ 60 (.tmp 6) (.tmp 19) ?_ hS1.out 2 (c := ⟨b6, 60, z0 12⟩) ?_ ?_ (n2 (o2 P (Z2.add (i2 x) (i2 y)))) ?_ ?_ ?_ ?_ Try.szF2' ?_); rfl; rfl; rfl; rfl; rfl; rfl; rfl; rfl; intro wz hZ hO)
  exact retS rfl hZ 2 (c := ⟨b6, 60, n2 (o2 P (Z2.add (i2 x) (i2 y)))⟩) rfl rfl Try.underlying60 rfl Try.szF2' rfl ⟨rfl, hZ.bl⟩

set_option maxRecDepth 100000 in
set_option maxHeartbeats 3200000 in
theorem wsub2 {tb bf bt bm P n size : Nat} {N : Int} {fr : List Value} {w : World} (x : N2) (y : N2) (hT : TW w tb bf bt bm P n size N fr) (hx : n2ok x) (hy : n2ok y) :
    Calls Try.prog 53 #[.pointer (some ⟨tb, 0, none⟩), .agg (n2 x).toArray, .agg (n2 y).toArray] w fun e w' => e = .returned (.agg (n2 (o2 P (Z2.sub (i2 x) (i2 y)))).toArray) ∧ Below w.heap.size w w' := by
  have hT := hide hT
  have hx := hide hx
  have hy := hide hy
  go_enter Try.func53, Try.ntmps53
  have hq0 := hide (St.start w)
  go_upto_region 1 with (first
    | ((with_reducible refine boxS (o := ⟨some 4, _, _, _, _, _⟩) ?_ 60 (.tmp 1) ?_ hq0.out (n2 x) ?_ ?_); rfl; rfl; rfl; intro wq1 b4 hS; have hq1 : Hid (St w wq1 [⟨b4, 60, n2 x⟩]) := hide hS; clear hS)
    | ((with_reducible refine boxS (o := ⟨some 5, _, _, _, _, _⟩) ?_ 60 (.tmp 2) ?_ hq1.out (n2 y) ?_ ?_); rfl; rfl; rfl; intro wq2 b5 hS; have hq2 : Hid (St w wq2 [⟨b4, 60, n2 x⟩, ⟨b5, 60, n2 y⟩]) := hide hS; clear hS)
    | ((with_reducible refine allocS (o := ⟨some 6, _, _, _, _, _⟩) ?_ 60 ?_ hq2.out (z0 12) Try.zrF2' ?_); rfl; rfl; intro wq3 b6 hS; have hq3 : Hid (St w wq3 [⟨b4, 60, n2 x⟩, ⟨b5, 60, n2 y⟩, ⟨b6, 60, z0 12⟩]) := hide hS; clear hS))
  have hS0 := hq3
  clear hq0 hq1 hq2 hq3
  go_upto_region 1 with fail
  refine region_do 13 20 [fun v _ => v = .pointer (some ⟨tb, 0, none⟩), fun v _ => v = .pointer (some ⟨tb, 0, none⟩), fun v _ => v = .pointer (some ⟨tb, 0, none⟩), fun v _ => v = .pointer (some ⟨tb, 1, none⟩), fun v _ => v = .pointer (some ⟨bt, 0, none⟩), fun v _ => v = .pointer (some ⟨tb, 0, none⟩), fun v _ => v = .agg (n2 x).toArray, fun v _ => v = .agg (m2 P n (i2 x)).toArray, fun v _ => v = .pointer (some ⟨tb, 0, none⟩), fun v _ => v = .agg (n2 y).toArray, fun v _ => v = .agg (m2 P n (i2 y)).toArray, fun v _ => v = .agg (m2 P n (Z2.sub (i2 x) (i2 y))).toArray, fun v _ => v = .agg (n2 (o2 P (Z2.sub (i2 x) (i2 y)))).toArray]
    [(0, .pointer (some ⟨tb, 0, none⟩)), (4, .pointer (some ⟨b4, 0, none⟩)), (5, .pointer (some ⟨b5, 0, none⟩))] (fun w' => St w w' [⟨b4, 60, n2 x⟩, ⟨b5, 60, n2 y⟩, ⟨b6, 60, z0 12⟩] ∧ TW w' tb bf bt bm P n size N fr) (fun w' => True) 999 none (by kernel_rfl) (by kernel_rfl) rfl rfl
    (.cons (Fact.eq _) rfl (.cons (Fact.eq _) rfl (.cons (Fact.eq _) rfl (.cons (Fact.eq _) rfl (.cons (Fact.eq _) rfl (.cons (Fact.eq _) rfl (.cons (Fact.eq _) rfl (.cons (Fact.eq _) rfl (.cons (Fact.eq _) rfl (.cons (Fact.eq _) rfl (.cons (Fact.eq _) rfl (.cons (Fact.eq _) rfl (.cons (Fact.eq _) rfl (.nil _)))))))))))))) (fun w' h => ⟨hS0.out.next h, hT.out.next (hS0.out.next h).bl⟩) (fun w' h => trivial) (by kernel_rfl) (by exact ⟨rfl, rfl, rfl, trivial⟩) (.cons ?_ (.cons ?_ (.cons ?_ (.cons ?_ (.cons ?_ (.cons ?_ (.cons ?_ (.cons ?_ (.cons ?_ (.cons ?_ (.cons ?_ (.cons ?_ (.cons ?_ .nil))))))))))))) ?_
  · refine Obl.plain rfl _ rfl rfl [] (by kernel_rfl) fun a W hF hC hD K hK => ?_
    have e0 : a.tmps.getD 0 undef = .pointer (some ⟨tb, 0, none⟩) := hF.1
    clear hF hD hC
    exact wp_move (.tmp 0) rfl e0 (hK _ _ rfl (Below.refl _ _))
  · refine Obl.plain rfl _ rfl rfl [] (by kernel_rfl) fun a W hF hC hD K hK => ?_
    have e0 : a.tmps.getD 0 undef = .pointer (some ⟨tb, 0, none⟩) := hF.1
    clear hF hD hC
    exact wp_move (.tmp 0) rfl e0 (hK _ _ rfl (Below.refl _ _))
  · refine Obl.plain rfl _ rfl rfl [1] (by kernel_rfl) fun a W hF hC hD K hK => ?_
    have e8 : a.tmps.getD 8 undef = .pointer (some ⟨tb, 0, none⟩) := hD.1
    clear hF hD hC
    exact wp_nil (.tmp 8) rfl e8 (hK _ _ rfl (Below.refl _ _))
  · refine Obl.plain rfl _ rfl rfl [2] (by kernel_rfl) fun a W hF hC hD K hK => ?_
    have e9 : a.tmps.getD 9 undef = .pointer (some ⟨tb, 0, none⟩) := hD.1
    clear hF hD hC
    exact wp_fld (.tmp 9) rfl e9 (Try.fldW1 _ W) (hK _ _ rfl (Below.refl _ _))
  · refine Obl.plain rfl _ rfl rfl [3] (by kernel_rfl) fun a W hF hC hD K hK => ?_
    obtain ⟨c1, c2⟩ := hC
    have e10 : a.tmps.getD 10 undef = .pointer (some ⟨tb, 1, none⟩) := hD.1
    clear hF hD
    exact wp_ptr (.tmp 10) rfl e10 c2.cell1 Try.aggT (hK _ _ rfl (Below.refl _ _))
  · refine Obl.plain rfl _ rfl rfl [] (by kernel_rfl) fun a W hF hC hD K hK => ?_
    have e0 : a.tmps.getD 0 undef = .pointer (some ⟨tb, 0, none⟩) := hF.1
    clear hF hD hC
    exact wp_move (.tmp 0) rfl e0 (hK _ _ rfl (Below.refl _ _))
  · refine Obl.plain rfl _ rfl rfl [] (by kernel_rfl) fun a W hF hC hD K hK => ?_
    obtain ⟨c1, c2⟩ := hC
    have e4 : a.tmps.getD 4 undef = .pointer (some ⟨b4, 0, none⟩) := hF.2.1
    clear hF hD
    exact wpLd 60 (.tmp 4) rfl (c1.vb 0 _ rfl) 0 e4 (n2 x) (part_all _ (n2_len _)) (n2_len _) Try.underlying60 rfl Try.szF2' (hK _ _ rfl (Below.refl _ _))
  · refine Obl.plain rfl _ rfl rfl [5, 6] (by kernel_rfl) fun a W hF hC hD K hK => ?_
    obtain ⟨c1, c2⟩ := hC
    have e12 : a.tmps.getD 12 undef = .pointer (some ⟨tb, 0, none⟩) := hD.1
    have e13 : a.tmps.getD 13 undef = .agg (n2 x).toArray := hD.2.1
    clear hF hD
    exact wp_callV #[a.tmps.getD 12 undef, a.tmps.getD 13 undef] #[.pointer (some ⟨tb, 0, none⟩), .agg (n2 x).toArray] (.agg (m2 P n (i2 x)).toArray) (by kernel_rfl) (by rw [e12, e13]) (win2 x c2 hx.out) (fun w' hb => hK _ _ rfl hb)
  · refine Obl.plain rfl _ rfl rfl [] (by kernel_rfl) fun a W hF hC hD K hK => ?_
    have e0 : a.tmps.getD 0 undef = .pointer (some ⟨tb, 0, none⟩) := hF.1
    clear hF hD hC
    exact wp_move (.tmp 0) rfl e0 (hK _ _ rfl (Below.refl _ _))
  · refine Obl.plain rfl _ rfl rfl [] (by kernel_rfl) fun a W hF hC hD K hK => ?_
    obtain ⟨c1, c2⟩ := hC
    have e5 : a.tmps.getD 5 undef = .pointer (some ⟨b5, 0, none⟩) := hF.2.2.1
    clear hF hD
    exact wpLd 60 (.tmp 5) rfl (c1.vb 1 _ rfl) 0 e5 (n2 y) (part_all _ (n2_len _)) (n2_len _) Try.underlying60 rfl Try.szF2' (hK _ _ rfl (Below.refl _ _))
  · refine Obl.plain rfl _ rfl rfl [8, 9, 7] (by kernel_rfl) fun a W hF hC hD K hK => ?_
    obtain ⟨c1, c2⟩ := hC
    have e15 : a.tmps.getD 15 undef = .pointer (some ⟨tb, 0, none⟩) := hD.1
    have e16 : a.tmps.getD 16 undef = .agg (n2 y).toArray := hD.2.1
    clear hF hD
    exact wp_callV #[a.tmps.getD 15 undef, a.tmps.getD 16 undef] #[.pointer (some ⟨tb, 0, none⟩), .agg (n2 y).toArray] (.agg (m2 P n (i2 y)).toArray) (by kernel_rfl) (by rw [e15, e16]) (win2 y c2 hy.out) (fun w' hb => hK _ _ rfl hb)
  · refine Obl.plain rfl _ rfl rfl [4, 7, 10, 10] (by kernel_rfl) fun a W hF hC hD K hK => ?_
    obtain ⟨c1, c2⟩ := hC
    have e11 : a.tmps.getD 11 undef = .pointer (some ⟨bt, 0, none⟩) := hD.1
    have e14 : a.tmps.getD 14 undef = .agg (m2 P n (i2 x)).toArray := hD.2.1
    have e17 : a.tmps.getD 17 undef = .agg (m2 P n (i2 y)).toArray := hD.2.2.1
    clear hF hD
    exact wp_callV #[a.tmps.getD 11 undef, a.tmps.getD 14 undef, a.tmps.getD 17 undef] #[.pointer (some ⟨bt, 0, none⟩), .agg (m2 P n (i2 x)).toArray, .agg (m2 P n (i2 y)).toArray] (.agg (m2 P n (Z2.sub (i2 x) (i2 y))).toArray) (by kernel_rfl) (by rw [e11, e14, e17]) (xsub2 (i2 x) (i2 y) c2.tb c2.fq.inv) (fun w' hb => hK _ _ rfl hb)
  · refine Obl.plain rfl _ rfl rfl [0, 11, 11] (by kernel_rfl) fun a W hF hC hD K hK => ?_
    obtain ⟨c1, c2⟩ := hC
    have e7 : a.tmps.getD 7 undef = .pointer (some ⟨tb, 0, none⟩) := hD.1
    have e18 : a.tmps.getD 18 undef = .agg (m2 P n (Z2.sub (i2 x) (i2 y))).toArray := hD.2.1
    clear hF hD
    exact wp_callV #[a.tmps.getD 7 undef, a.tmps.getD 18 undef] #[.pointer (some ⟨tb, 0, none⟩), .agg (m2 P n (Z2.sub (i2 x) (i2 y))).toArray] (.agg (n2 (o2 P (Z2.sub (i2 x) (i2 y)))).toArray) (by kernel_rfl) (by rw [e7, e18]) (wout2 (Z2.sub (i2 x) (i2 y)) c2) (fun w' hb => hK _ _ rfl hb)
  rintro w1 hB hC _ rfl _ rfl _ rfl _ rfl _ rfl _ rfl _ rfl _ rfl _ rfl _ rfl _ rfl _ rfl _ rfl
  change Below _ _ _ at hB
  change wpList _ _ _ _ _ _
  simp only [List.drop_succ_cons, List.drop_zero, Act.put, List.setIfInBounds_toArray, List.set_cons_zero, List.set_cons_succ]
  have hS1 := hide (hS0.out.next hB)
  clear hB hC hS0
  go_wp2_with ((with_reducible refine storeWS (n := 12) (o := ⟨none, _, _, _, _, _⟩) ?_ 60 (.tmp 6) (.tmp 19) ?_ hS1.out 2 (c := ⟨b6, 60, z0 12⟩) ?_ ?_ (n2 (o2 P (Z2.sub (i2 x) (i2 y)))) ?_ ?_ ?_ ?_ Try.szF2' ?_); rfl; rfl; rfl; rfl; rfl; rfl; rfl; rfl; intro wz hZ hO)
  exact retS rfl hZ 2 (c := ⟨b6, 60, n2 (o2 P (Z2.sub (i2 x) (i2 y)))⟩) rfl rfl Try.underlying60 rfl Try.szF2' rfl ⟨rfl, hZ.bl⟩

set_option maxRecDepth 100000 in
set_option maxHeartbeats 3200000 in
theorem wconj2 {tb bf bt bm P n size : Nat} {N : Int} {fr : List Value} {w : World} (x : N2) (hT : TW w tb bf bt bm P n size N fr) (hx : n2ok x) :
    Calls Try.prog 55 #[.pointer (some ⟨tb, 0, none⟩), .agg (n2 x).toArray] w fun e w' => e = .returned (.agg (n2 (o2 P (Z2.conj (i2 x)))).toArray) ∧ Below w.heap.size w w' := by
  have hT := hide hT
  have hx := hide hx
  go_enter Try.func55, Try.ntmps55
  have hq0 := hide (St.start w)
  go_upto_region 1 with (first
    | ((with_reducible refine boxS (o := ⟨some 3, _, _, _, _, _⟩) ?_ 60 (.tmp 1) ?_ hq0.out (n2 x) ?_ ?_); rfl; rfl; rfl; intro wq1 b3 hS; have hq1 : Hid (St w wq1 [⟨b3, 60, n2 x⟩]) := hide hS; clear hS)
    | ((with_reducible refine allocS (o := ⟨some 4, _, _, _, _, _⟩) ?_ 60 ?_ hq1.out (z0 12) Try.zrF2' ?_); rfl; rfl; intro wq2 b4 hS; have hq2 : Hid (St w wq2 [⟨b3, 60, n2 x⟩, ⟨b4, 60, z0 12⟩]) := hide hS; clear hS))
  have hS0 := hq2
  clear hq0 hq1 hq2
  go_upto_region 1 with fail
  refine region_do 10 15 [fun v _ => v = .pointer (some ⟨tb, 0, none⟩), fun v _ => v = .pointer (some ⟨tb, 0, none⟩), fun v _ => v = .pointer (some ⟨tb, 0, none⟩), fun v _ => v = .pointer (some ⟨tb, 1, none⟩), fun v _ => v = .pointer (some ⟨bt, 0, none⟩), fun v _ => v = .pointer (some ⟨tb, 0, none⟩), fun v _ => v = .agg (n2 x).toArray, fun v _ => v = .agg (m2 P n (i2 x)).toArray, fun v _ => v = .agg (m2 P n (Z2.conj (i2 x))).toArray, fun v _ => v = .agg (n2 (o2 P (Z2.conj (i2 x)))).toArray]
    [(0, .pointer (some ⟨tb, 0, none⟩)), (3, .pointer (some ⟨b3, 0, none⟩))] (fun w' => St w w' [⟨b3, 60, n2 x⟩, ⟨b4, 60, z0 12⟩] ∧ TW w' tb bf bt bm P n size N fr) (fun w' => True) 999 none (by kernel_rfl) (by kernel_rfl) rfl rfl
    (.cons (Fact.eq _) rfl (.cons (Fact.eq _) rfl (.cons (Fact.eq _) rfl (.cons (Fact.eq _) rfl (.cons (Fact.eq _) rfl (.cons (Fact.eq _) rfl (.cons (Fact.eq _) rfl (.cons (Fact.eq _) rfl (.cons (Fact.eq _) rfl (.cons (Fact.eq _) rfl (.nil _))))))))))) (fun w' h => ⟨hS0.out.next h, hT.out.next (hS0.out.next h).bl⟩) (fun w' h => trivial) (by kernel_rfl) (by exact ⟨rfl, rfl, trivial⟩) (.cons ?_ (.cons ?_ (.cons ?_ (.cons ?_ (.cons ?_ (.cons ?_ (.cons ?_ (.cons ?_ (.cons ?_ (.cons ?_ .nil)))))))))) ?_
  · refine Obl.plain rfl _ rfl rfl [] (by kernel_rfl) fun a W hF hC hD K hK => ?_
    have e0 : a.tmps.getD 0 undef = .pointer (some ⟨tb, 0, none⟩) := hF.1
    clear hF hD hC
    exact wp_move (.tmp 0) rfl e0 (hK _ _ rfl (Below.refl _ _))
  · refine Obl.plain rfl _ rfl rfl [] (by kernel_rfl) fun a W hF hC hD K hK => ?_
    have e0 : a.tmps.getD 0 undef = .pointer (some ⟨tb, 0, none⟩) := hF.1
    clear hF hD hC
    exact wp_move (.tmp 0) rfl e0 (hK _ _ rfl (Below.refl _ _))
  · refine Obl.plain rfl _ rfl rfl [1] (by kernel_rfl) fun a W hF hC hD K hK => ?_
    have e6 : a.tmps.getD 6 undef = .pointer (some ⟨tb, 0, none⟩) := hD.1
    clear hF hD hC
    exact wp_nil (.tmp 6) rfl e6 (hK _ _ rfl (Below.refl _ _))
  · refine Obl.plain rfl _ rfl rfl [2] (by kernel_rfl) fun a W hF hC hD K hK => ?_
    have e7 : a.tmps.getD 7 undef = .pointer (some ⟨tb, 0, none⟩) := hD.1
    clear hF hD hC
    exact wp_fld (.tmp 7) rfl e7 (Try.fldW1 _ W) (hK _ _ rfl (Below.refl _ _))
  · refine Obl.plain rfl _ rfl rfl [3] (by kernel_rfl) fun a W hF hC hD K hK => ?_
    obtain ⟨c1, c2⟩ := hC
    have e8 : a.tmps.getD 8 undef = .pointer (some ⟨tb, 1, none⟩) := hD.1
    clear hF hD
    exact wp_ptr (.tmp 8) rfl e8 c2.cell1 Try.aggT (hK _ _ rfl (Below.refl _ _))
  · refine Obl.plain rfl _ rfl rfl [] (by kernel_rfl) fun a W hF hC hD K hK => ?_
    have e0 : a.tmps.getD 0 undef = .pointer (some ⟨tb, 0, none⟩) := hF.1
    clear hF hD hC
    exact wp_move (.tmp 0) rfl e0 (hK _ _ rfl (Below.refl _ _))
  · refine Obl.plain rfl _ rfl rfl [] (by kernel_rfl) fun a W hF hC hD K hK => ?_
    obtain ⟨c1, c2⟩ := hC
    have e3 : a.tmps.getD 3 undef = .pointer (some ⟨b3, 0, none⟩) := hF.2.1
    clear hF hD
    exact wpLd 60 (.tmp 3) rfl (c1.vb 0 _ rfl) 0 e3 (n2 x) (part_all _ (n2_len _)) (n2_len _) Try.underlying60 rfl Try.szF2' (hK _ _ rfl (Below.refl _ _))
  · refine Obl.plain rfl _ rfl rfl [5, 6] (by kernel_rfl) fun a W hF hC hD K hK => ?_
    obtain ⟨c1, c2⟩ := hC
    have e10 : a.tmps.getD 10 undef = .pointer (some ⟨tb, 0, none⟩) := hD.1
    have e11 : a.tmps.getD 11 undef = .agg (n2 x).toArray := hD.2.1
    clear hF hD
    exact wp_callV #[a.tmps.getD 10 undef, a.tmps.getD 11 undef] #[.pointer (some ⟨tb, 0, none⟩), .agg (n2 x).toArray] (.agg (m2 P n (i2 x)).toArray) (by kernel_rfl) (by rw [e10, e11]) (win2 x c2 hx.out) (fun w' hb => hK _ _ rfl hb)
  · refine Obl.plain rfl _ rfl rfl [4, 7, 7] (by kernel_rfl) fun a W hF hC hD K hK => ?_
    obtain ⟨c1, c2⟩ := hC
    have e9 : a.tmps.getD 9 undef = .pointer (some ⟨bt, 0, none⟩) := hD.1
    have e12 : a.tmps.getD 12 undef = .agg (m2 P n (i2 x)).toArray := hD.2.1
    clear hF hD
    exact wp_callV #[a.tmps.getD 9 undef, a.tmps.getD 12 undef] #[.pointer (some ⟨bt, 0, none⟩), .agg (m2 P n (i2 x)).toArray] (.agg (m2 P n (Z2.conj (i2 x))).toArray) (by kernel_rfl) (by rw [e9, e12]) (xconj2 (i2 x) c2.tb c2.fq.inv) (fun w' hb => hK _ _ rfl hb)
  · refine Obl.plain rfl _ rfl rfl [0, 8, 8] (by kernel_rfl) fun a W hF hC hD K hK => ?_
    obtain ⟨c1, c2⟩ := hC
    have e5 : a.tmps.getD 5 undef = .pointer (some ⟨tb, 0, none⟩) := hD.1
    have e13 : a.tmps.getD 13 undef = .agg (m2 P n (Z2.conj (i2 x))).toArray := hD.2.1
    clear hF hD
    exact wp_callV #[a.tmps.getD 5 undef, a.tmps.getD 13 undef] #[.pointer (some ⟨tb, 0, none⟩), .agg (m2 P n (Z2.conj (i2 x))).toArray] (.agg (n2 (o2 P (Z2.conj (i2 x)))).toArray) (by kernel_rfl) (by rw [e5, e13]) (wout2 (Z2.conj (i2 x)) c2) (fun w' hb => hK _ _ rfl hb)
  rintro w1 hB hC _ rfl _ rfl _ rfl _ rfl _ rfl _ rfl _ rfl _ rfl _ rfl _ rfl
  change Below _ _ _ at hB
  change wpList _ _ _ _ _ _
  simp only [List.drop_succ_cons, List.drop_zero, Act.put, List.setIfInBounds_toArray, List.set_cons_zero, List.set_cons_succ]
  have hS1 := hide (hS0.out.next hB)
  clear hB hC hS0
  go_wp2_with ((with_reducible refine storeWS (n := 12) (o := ⟨none, _, _, _, _, _⟩) ?_ 60 (.tmp 4) (.tmp 14) ?_ hS1.out 1 (c := ⟨b4, 60, z0 12⟩) ?_ ?_ (n2 (o2 P (Z2.conj (i2 x)))) ?_ ?_ ?_ ?_ Try.szF2' ?_); rfl; rfl; rfl; rfl; rfl; rfl; rfl; rfl; intro wz hZ hO)
  exact retS rfl hZ 1 (c := ⟨b4, 60, n2 (o2 P (Z2.conj (i2 x)))⟩) rfl rfl Try.underlying60 rfl Try.szF2' rfl ⟨rfl, hZ.bl⟩

set_option maxRecDepth 100000 in
set_option maxHeartbeats 3200000 in
theorem wconj12 {tb bf bt bm P n size : Nat} {N : Int} {fr : List Value} {w : World} (x : N12) (hT : TW w tb bf bt bm P n size N fr) (hx : n12ok x) :
    Calls Try.prog 54 #[.pointer (some ⟨tb, 0, none⟩), .agg (n12 x).toArray] w fun e w' => e = .returned (.agg (n12 (o12 P (Z12.conj (i12 x)))).toArray) ∧ Below w.heap.size w w' := by
  have hT := hide hT
  have hx := hide hx
  go_enter Try.func54, Try.ntmps54
  have hq0 := hide (St.start w)
  go_upto_region 1 with (first
    | ((with_reducible refine boxS (o := ⟨some 3, _, _, _, _, _⟩) ?_ 64 (.tmp 1) ?_ hq0.out (n12 x) ?_ ?_); rfl; rfl; rfl; intro wq1 b3 hS; have hq1 : Hid (St w wq1 [⟨b3, 64, n12 x⟩]) := hide hS; clear hS)
    | ((with_reducible refine allocS (o := ⟨some 4, _, _, _, _, _⟩) ?_ 64 ?_ hq1.out (z0 72) Try.zrF12 ?_); rfl; rfl; intro wq2 b4 hS; have hq2 : Hid (St w wq2 [⟨b3, 64, n12 x⟩, ⟨b4, 64, z0 72⟩]) := hide hS; clear hS))
  have hS0 := hq2
  clear hq0 hq1 hq2
  go_upto_region 1 with fail
  refine region_do 10 15 [fun v _ => v = .pointer (some ⟨tb, 0, none⟩), fun v _ => v = .pointer (some ⟨tb, 0, none⟩), fun v _ => v = .pointer (some ⟨tb, 0, none⟩), fun v _ => v = .pointer (some ⟨tb, 1, none⟩), fun v _ => v = .pointer (some ⟨bt, 0, none⟩), fun v _ => v = .pointer (some ⟨tb, 0, none⟩), fun v _ => v = .agg (n12 x).toArray, fun v _ => v = .agg (m12 P n (i12 x)).toArray, fun v _ => v = .agg (m12 P n (Z12.conj (i12 x))).toArray, fun v _ => v = .agg (n12 (o12 P (Z12.conj (i12 x)))).toArray]
    [(0, .pointer (some ⟨tb, 0, none⟩)), (3, .pointer (some ⟨b3, 0, none⟩))] (fun w' => St w w' [⟨b3, 64, n12 x⟩, ⟨b4, 64, z0 72⟩] ∧ TW w' tb bf bt bm P n size N fr) (fun w' => True) 999 none (by kernel_rfl) (by kernel_rfl) rfl rfl
    (.cons (Fact.eq _) rfl (.cons (Fact.eq _) rfl (.cons (Fact.eq _) rfl (.cons (Fact.eq _) rfl (.cons (Fact.eq _) rfl (.cons (Fact.eq _) rfl (.cons (Fact.eq _) rfl (.cons (Fact.eq _) rfl (.cons (Fact.eq _) rfl (.cons (Fact.eq _) rfl (.nil _))))))))))) (fun w' h => ⟨hS0.out.next h, hT.out.next (hS0.out.next h).bl⟩) (fun w' h => trivial) (by kernel_rfl) (by exact ⟨rfl, rfl, trivial⟩) (.cons ?_ (.cons ?_ (.cons ?_ (.cons ?_ (.cons ?_ (.cons ?_ (.cons ?_ (.cons ?_ (.cons ?_ (.cons ?_ .nil)))))))))) ?_
  · refine Obl.plain rfl _ rfl rfl [] (by kernel_rfl) fun a W hF hC hD K hK => ?_
    have e0 : a.tmps.getD 0 undef = .pointer (some ⟨tb, 0, none⟩) := hF.1
    clear hF hD hC
    exact wp_move (.tmp 0) rfl e0 (hK _ _ rfl (Below.refl _ _))
  · refine Obl.plain rfl _ rfl rfl [] (by kernel_rfl) fun a W hF hC hD K hK => ?_
    have e0 : a.tmps.getD 0 undef = .pointer (some ⟨tb, 0, none⟩) := hF.1
    clear hF hD hC
    exact wp_move (.tmp 0) rfl e0 (hK _ _ rfl (Below.refl _ _))
  · refine Obl.plain rfl _ rfl rfl [1] (by kernel_rfl) fun a W hF hC hD K hK => ?_
    have e6 : a.tmps.getD 6 undef = .pointer (some ⟨tb, 0, none⟩) := hD.1
    clear hF hD hC
    exact wp_nil (.tmp 6) rfl e6 (hK _ _ rfl (Below.refl _ _))
  · refine Obl.plain rfl _ rfl rfl [2] (by kernel_rfl) fun a W hF hC hD K hK => ?_
    have e7 : a.tmps.getD 7 undef = .pointer (some ⟨tb, 0, none⟩) := hD.1
    clear hF hD hC
    exact wp_fld (.tmp 7) rfl e7 (Try.fldW1 _ W) (hK _ _ rfl (Below.refl _ _))
  · refine Obl.plain rfl _ rfl rfl [3] (by kernel_rfl) fun a W hF hC hD K hK => ?_
    obtain ⟨c1, c2⟩ := hC
    have e8 : a.tmps.getD 8 undef = .pointer (some ⟨tb, 1, none⟩) := hD.1
    clear hF hD
    exact wp_ptr (.tmp 8) rfl e8 c2.cell1 Try.aggT (hK _ _ rfl (Below.refl _ _))
  · refine Obl.plain rfl _ rfl rfl [] (by kernel_rfl) fun a W hF hC hD K hK => ?_
    have e0 : a.tmps.getD 0 undef = .pointer (some ⟨tb, 0, none⟩) := hF.1
    clear hF hD hC
    exact wp_move (.tmp 0) rfl e0 (hK _ _ rfl (Below.refl _ _))
  · refine Obl.plain rfl _ rfl rfl [] (by kernel_rfl) fun a W hF hC hD K hK => ?_
    obtain ⟨c1, c2⟩ := hC
    have e3 : a.tmps.getD 3 undef = .pointer (some ⟨b3, 0, none⟩) := hF.2.1
    clear hF hD
    exact wpLd 64 (.tmp 3) rfl (c1.vb 0 _ rfl) 0 e3 (n12 x) (part_all _ (n12_len _)) (n12_len _) Try.underlying64 rfl Try.szF12 (hK _ _ rfl (Below.refl _ _))
  · refine Obl.plain rfl _ rfl rfl [5, 6] (by kernel_rfl) fun a W hF hC hD K hK => ?_
    obtain ⟨c1, c2⟩ := hC
    have e10 : a.tmps.getD 10 undef = .pointer (some ⟨tb, 0, none⟩) := hD.1
    have e11 : a.tmps.getD 11 undef = .agg (n12 x).toArray := hD.2.1
    clear hF hD
    exact wp_callV #[a.tmps.getD 10 undef, a.tmps.getD 11 undef] #[.pointer (some ⟨tb, 0, none⟩), .agg (n12 x).toArray] (.agg (m12 P n (i12 x)).toArray) (by kernel_rfl) (by rw [e10, e11]) (win12 x c2 hx.out) (fun w' hb => hK _ _ rfl hb)
  · refine Obl.plain rfl _ rfl rfl [4, 7, 7] (by kernel_rfl) fun a W hF hC hD K hK => ?_
    obtain ⟨c1, c2⟩ := hC
    have e9 : a.tmps.getD 9 undef = .pointer (some ⟨bt, 0, none⟩) := hD.1
    have e12 : a.tmps.getD 12 undef = .agg (m12 P n (i12 x)).toArray := hD.2.1
    clear hF hD
    exact wp_callV #[a.tmps.getD 9 undef, a.tmps.getD 12 undef] #[.pointer (some ⟨bt, 0, none⟩), .agg (m12 P n (i12 x)).toArray] (.agg (m12 P n (Z12.conj (i12 x))).toArray) (by kernel_rfl) (by rw [e9, e12]) (xconj12 (i12 x) c2.tb c2.fq.inv) (fun w' hb => hK _ _ rfl hb)
  · refine Obl.plain rfl _ rfl rfl [0, 8, 8] (by kernel_rfl) fun a W hF hC hD K hK => ?_
    obtain ⟨c1, c2⟩ := hC
    have e5 : a.tmps.getD 5 undef = .pointer (some ⟨tb, 0, none⟩) := hD.1
    have e13 : a.tmps.getD 13 undef = .agg (m12 P n (Z12.conj (i12 x))).toArray := hD.2.1
    clear hF hD
    exact wp_callV #[a.tmps.getD 5 undef, a.tmps.getD 13 undef] #[.pointer (some ⟨tb, 0, none⟩), .agg (m12 P n (Z12.conj (i12 x))).toArray] (.agg (n12 (o12 P (Z12.conj (i12 x)))).toArray) (by kernel_rfl) (by rw [e5, e13]) (wout12 (Z12.conj (i12 x)) c2) (fun w' hb => hK _ _ rfl hb)
  rintro w1 hB hC _ rfl _ rfl _ rfl _ rfl _ rfl _ rfl _ rfl _ rfl _ rfl _ rfl
  change Below _ _ _ at hB
  change wpList _ _ _ _ _ _
  simp only [List.drop_succ_cons, List.drop_zero, Act.put, List.setIfInBounds_toArray, List.set_cons_zero, List.set_cons_succ]
  have hS1 := hide (hS0.out.next hB)
  clear hB hC hS0
  go_wp2_with ((with_reducible refine storeWS (n := 72) (o := ⟨none, _, _, _, _, _⟩) ?_ 64 (.tmp 4) (.tmp 14) ?_ hS1.out 1 (c := ⟨b4, 64, z0 72⟩) ?_ ?_ (n12 (o12 P (Z12.conj (i12 x)))) ?_ ?_ ?_ ?_ Try.szF12 ?_); rfl; rfl; rfl; rfl; rfl; rfl; rfl; rfl; intro wz hZ hO)
  exact retS rfl hZ 1 (c := ⟨b4, 64, n12 (o12 P (Z12.conj (i12 x)))⟩) rfl rfl Try.underlying64 rfl Try.szF12 rfl ⟨rfl, hZ.bl⟩

set_option maxRecDepth 100000 in
set_option maxHeartbeats 3200000 in
theorem wone12 {tb bf bt bm P n size : Nat} {N : Int} {fr : List Value} {w : World} (hT : TW w tb bf bt bm P n size N fr) :
    Calls Try.prog 58 #[.pointer (some ⟨tb, 0, none⟩)] w fun e w' => e = .returned (.agg (n12 (o12 P Z12.one)).toArray) ∧ Below w.heap.size w w' := by
  have hT := hide hT
  go_enter Try.func58, Try.ntmps58
  have hq0 := hide (St.start w)
  go_upto_region 1 with (first
    | ((with_reducible refine allocS (o := ⟨some 2, _, _, _, _, _⟩) ?_ 64 ?_ hq0.out (z0 72) Try.zrF12 ?_); rfl; rfl; intro wq1 b2 hS; have hq1 : Hid (St w wq1 [⟨b2, 64, z0 72⟩]) := hide hS; clear hS))
  have hS0 := hq1
  clear hq0 hq1
  go_upto_region 1 with fail
  refine region_seq 7 10 [fun v _ => v = .pointer (some ⟨tb, 0, none⟩), fun v _ => v = .pointer (some ⟨tb, 0, none⟩), fun v _ => v = .pointer (some ⟨tb, 0, none⟩), fun v _ => v = .pointer (some ⟨tb, 1, none⟩), fun v _ => v = .pointer (some ⟨bt, 0, none⟩), fun v _ => v = .agg (m12 P n Z12.one).toArray, fun v _ => v = .agg (n12 (o12 P Z12.one)).toArray]
    [(0, .pointer (some ⟨tb, 0, none⟩))] (fun w' => St w w' [⟨b2, 64, z0 72⟩] ∧ TW w' tb bf bt bm P n size N fr) (fun w' => True) 999 none trivial (by kernel_rfl) rfl rfl
    (.cons (Fact.eq _) rfl (.cons (Fact.eq _) rfl (.cons (Fact.eq _) rfl (.cons (Fact.eq _) rfl (.cons (Fact.eq _) rfl (.cons (Fact.eq _) rfl (.cons (Fact.eq _) rfl (.nil _)))))))) (fun w' h => ⟨hS0.out.next h, hT.out.next (hS0.out.next h).bl⟩) (fun w' h => trivial) (by kernel_rfl) (by exact ⟨rfl, trivial⟩) (.cons ?_ (.cons ?_ (.cons ?_ (.cons ?_ (.cons ?_ (.cons ?_ (.cons ?_ .nil))))))) ?_
  · refine Obl.plain rfl _ rfl rfl [] (by kernel_rfl) fun a W hF hC hD K hK => ?_
    have e0 : a.tmps.getD 0 undef = .pointer (some ⟨tb, 0, none⟩) := hF.1
    clear hF hD hC
    exact wp_move (.tmp 0) rfl e0 (hK _ _ rfl (Below.refl _ _))
  · refine Obl.plain rfl _ rfl rfl [] (by kernel_rfl) fun a W hF hC hD K hK => ?_
    have e0 : a.tmps.getD 0 undef = .pointer (some ⟨tb, 0, none⟩) := hF.1
    clear hF hD hC
    exact wp_move (.tmp 0) rfl e0 (hK _ _ rfl (Below.refl _ _))
  · refine Obl.plain rfl _ rfl rfl [1] (by kernel_rfl) fun a W hF hC hD K hK => ?_
    have e4 : a.tmps.getD 4 undef = .pointer (some ⟨tb, 0, none⟩) := hD.1
    clear hF hD hC
    exact wp_nil (.tmp 4) rfl e4 (hK _ _ rfl (Below.refl _ _))
  · refine Obl.plain rfl _ rfl rfl [2] (by kernel_rfl) fun a W hF hC hD K hK => ?_
    have e5 : a.tmps.getD 5 undef = .pointer (some ⟨tb, 0, none⟩) := hD.1
    clear hF hD hC
    exact wp_fld (.tmp 5) rfl e5 (Try.fldW1 _ W) (hK _ _ rfl (Below.refl _ _))
  · refine Obl.plain rfl _ rfl rfl [3] (by kernel_rfl) fun a W hF hC hD K hK => ?_
    obtain ⟨c1, c2⟩ := hC
    have e6 : a.tmps.getD 6 undef = .pointer (some ⟨tb, 1, none⟩) := hD.1
    clear hF hD
    exact wp_ptr (.tmp 6) rfl e6 c2.cell1 Try.aggT (hK _ _ rfl (Below.refl _ _))
  · refine Obl.plain rfl _ rfl rfl [4] (by kernel_rfl) fun a W hF hC hD K hK => ?_
    obtain ⟨c1, c2⟩ := hC
    have e7 : a.tmps.getD 7 undef = .pointer (some ⟨bt, 0, none⟩) := hD.1
    clear hF hD
    exact wp_callV #[a.tmps.getD 7 undef] #[.pointer (some ⟨bt, 0, none⟩)] (.agg (m12 P n Z12.one).toArray) (by kernel_rfl) (by rw [e7]) (xone12 c2.tb c2.fq.inv) (fun w' hb => hK _ _ rfl hb)
  · refine Obl.plain rfl _ rfl rfl [0, 5, 5] (by kernel_rfl) fun a W hF hC hD K hK => ?_
    obtain ⟨c1, c2⟩ := hC
    have e3 : a.tmps.getD 3 undef = .pointer (some ⟨tb, 0, none⟩) := hD.1
    have e8 : a.tmps.getD 8 undef = .agg (m12 P n Z12.one).toArray := hD.2.1
    clear hF hD
    exact wp_callV #[a.tmps.getD 3 undef, a.tmps.getD 8 undef] #[.pointer (some ⟨tb, 0, none⟩), .agg (m12 P n Z12.one).toArray] (.agg (n12 (o12 P Z12.one)).toArray) (by kernel_rfl) (by rw [e3, e8]) (wout12 Z12.one c2) (fun w' hb => hK _ _ rfl hb)
  rintro w1 hB hC _ rfl _ rfl _ rfl _ rfl _ rfl _ rfl _ rfl
  change Below _ _ _ at hB
  change wpList _ _ _ _ _ _
  simp only [List.drop_succ_cons, List.drop_zero, Act.put, List.setIfInBounds_toArray, List.set_cons_zero, List.set_cons_succ]
  have hS1 := hide (hS0.out.next hB)
  clear hB hC hS0
  go_wp2_with ((with_reducible refine storeWS (n := 72) (o := ⟨none, _, _, _, _, _⟩) ?_ 64 (.tmp 2) (.tmp 9) ?_ hS1.out 0 (c := ⟨b2, 64, z0 72⟩) ?_ ?_ (n12 (o12 P Z12.one)) ?_ ?_ ?_ ?_ Try.szF12 ?_); rfl; rfl; rfl; rfl; rfl; rfl; rfl; rfl; intro wz hZ hO)
  exact retS rfl hZ 0 (c := ⟨b2, 64, n12 (o12 P Z12.one)⟩) rfl rfl Try.underlying64 rfl Try.szF12 rfl ⟨rfl, hZ.bl⟩
end Go.Proofs.Ytincemkjdgbnnaa
