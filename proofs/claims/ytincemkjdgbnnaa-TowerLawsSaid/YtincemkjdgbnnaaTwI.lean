/- Walks: law07.wakes -/
import Derived.Test.YtincemkjdgbnnaaSeq
set_option linter.unusedVariables false
set_option linter.unusedSimpArgs false
namespace Go.Proofs.Ytincemkjdgbnnaa
open Go.RowKit Lm

def N2.zero : N2 := ⟨0, 0⟩
def N6.zero : N6 := ⟨N2.zero, N2.zero, N2.zero⟩
def N12.zero : N12 := ⟨N6.zero, N6.zero⟩
theorem ok0 : (0 : Nat) < B64 ^ 6 := by decide
theorem ok1 : (1 : Nat) < B64 ^ 6 := by decide
theorem ok2z : n2ok N2.zero := ⟨ok0, ok0⟩
theorem ok6z : n6ok N6.zero := ⟨ok2z, ok2z, ok2z⟩
theorem ok12z : n12ok N12.zero := ⟨ok6z, ok6z⟩
theorem zm_ok {P : Nat} (h : 0 < P ∧ P < B64 ^ 6) (X : Int) : zm P X < B64 ^ 6 := Nat.lt_trans (zm_lt h.1 X) h.2
theorem o2ok {P : Nat} (h : 0 < P ∧ P < B64 ^ 6) (X : Z2) : n2ok (o2 P X) := ⟨zm_ok h _, zm_ok h _⟩
theorem o6ok {P : Nat} (h : 0 < P ∧ P < B64 ^ 6) (X : Z6) : n6ok (o6 P X) := ⟨o2ok h _, o2ok h _, o2ok h _⟩
theorem o12ok {P : Nat} (h : 0 < P ∧ P < B64 ^ 6) (X : Z12) : n12ok (o12 P X) := ⟨o6ok h _, o6ok h _⟩
theorem ve_zero : ve 0 = z0 6 := rfl
theorem n2_zero : n2 N2.zero = z0 12 := by show ve 0 ++ ve 0 = _; rw [ve_zero]; rfl
theorem n6_zero : n6 N6.zero = z0 36 := by show n2 N2.zero ++ (n2 N2.zero ++ n2 N2.zero) = _; rw [n2_zero]; rfl
theorem n12_zero : n12 N12.zero = z0 72 := by show n6 N6.zero ++ n6 N6.zero = _; rw [n6_zero]; rfl
theorem pad_n2 (x : Nat) : Value.agg (ve x ++ (z0 12).drop 6).toArray = .agg (n2 ⟨x, 0⟩).toArray := by show _ = Value.agg (ve x ++ ve 0).toArray; rw [ve_zero]; rfl
theorem pad_n6 (x : N2) : Value.agg (n2 x ++ (z0 36).drop 12).toArray = .agg (n6 ⟨x, N2.zero, N2.zero⟩).toArray := by show _ = Value.agg (n2 x ++ (n2 N2.zero ++ n2 N2.zero)).toArray; rw [n2_zero]; rfl
theorem pad_n12 (x : N6) : Value.agg (n6 x ++ (z0 72).drop 36).toArray = .agg (n12 ⟨x, N6.zero⟩).toArray := by show _ = Value.agg (n6 x ++ n6 N6.zero).toArray; rw [n6_zero]; rfl
theorem q2_of {x y : N2} (h : x = y) : q2 x y = true := by subst h; exact q2_refl _
theorem q6_of {x y : N6} (h : x = y) : q6 x y = true := by subst h; exact q6_refl _
theorem q12_of {x y : N12} (h : x = y) : q12 x y = true := by subst h; exact q12_refl _
theorem Try.egN : Try.prog.eqGuardType Try.prog.depth 24 = false := by kernel_rfl
theorem zm0 {P : Nat} (h : 1 < P) : zm P 0 = 0 := by simp [zm]
theorem zm1 {P : Nat} (h : 1 < P) : zm P 1 = 1 := by
  unfold zm
  rw [Int.emod_eq_of_lt (by omega) (by omega)]; rfl
theorem wake1 {P : Nat} (h : 1 < P) : o6 P (Z6.mul ((1 : Nat) : Int) (i6 (⟨N2.zero, N2.zero, (⟨1, 0⟩ : N2)⟩ : N6)) (i6 (⟨N2.zero, (⟨1, 0⟩ : N2), N2.zero⟩ : N6))) = (⟨(⟨1, 1⟩ : N2), N2.zero, N2.zero⟩ : N6) := by
  have e : Z6.mul ((1 : Nat) : Int) (i6 (⟨N2.zero, N2.zero, (⟨1, 0⟩ : N2)⟩ : N6)) (i6 (⟨N2.zero, (⟨1, 0⟩ : N2), N2.zero⟩ : N6)) = ⟨⟨1, 1⟩, ⟨0, 0⟩, ⟨0, 0⟩⟩ := rfl
  rw [e]
  simp only [o6, o2, zm0 h, zm1 h, N2.zero]
theorem wake2 {P : Nat} (h : 1 < P) : o12 P Z12.one = (⟨(⟨(⟨1, 0⟩ : N2), N2.zero, N2.zero⟩ : N6), N6.zero⟩ : N12) := by
  simp only [o12, o6, o2, Z12.one, Z6.one, Z2.one, Z6.zero, Z2.zero, zm0 h, zm1 h, N2.zero, N6.zero]

set_option maxRecDepth 100000 in
set_option maxHeartbeats 3200000 in
theorem wakes7 (w : World) : Calls Try.prog 84 #[] w fun e w' => e = .returned (.bool true) ∧ Below w.heap.size w w' := by
  have Hnew := hide (fun W => tnew_3 W)
  unfold RetT at Hnew
  generalize fr6 (kP 5) (kn 5) ((1 : Nat) : Int) = fr at *
  generalize kP 5 = P at *
  generalize kn 5 = n at *
  generalize ksz 5 = size at *
  go_enter Try.func84, Try.ntmps84
  go_upto_region 4 with (go_at_call 82; refine (Hnew.out w).mono ?_; rintro e w0 ⟨tb, bf, bt, bm, rfl, hT, hg1, hg2, hg3, hg4, hB⟩; clear hg1 hg2 hg3 hg4; replace hT := hide hT; replace hB := hide hB)
  have hP := hide (And.intro hT.out.fq.pos hT.out.fq.lt6)
  have hP1 := hide hT.out.fq.fb.gt
  have hS0 := hide (St.start w0)
  go_upto_region 4 with fail
  refine region_sq 14 45 [fun v _ => v = .pointer (some ⟨tb, 0, none⟩), fun v _ => v = .agg (n2 N2.zero).toArray, fun v _ => v = .agg (n2 N2.zero).toArray, fun v _ => v = vE 1, fun v _ => v = vE 0, fun v _ => v = .agg (n2 ((⟨1, 0⟩ : N2))).toArray, fun v _ => v = .agg (n6 ((⟨N2.zero, N2.zero, (⟨1, 0⟩ : N2)⟩ : N6))).toArray, fun v _ => v = .agg (n2 N2.zero).toArray, fun v _ => v = vE 1, fun v _ => v = vE 0, fun v _ => v = .agg (n2 ((⟨1, 0⟩ : N2))).toArray, fun v _ => v = .agg (n2 N2.zero).toArray, fun v _ => v = .agg (n6 ((⟨N2.zero, (⟨1, 0⟩ : N2), N2.zero⟩ : N6))).toArray, fun v _ => v = .agg (n6 (o6 P (Z6.mul ((1 : Nat) : Int) (i6 ((⟨N2.zero, N2.zero, (⟨1, 0⟩ : N2)⟩ : N6))) (i6 ((⟨N2.zero, (⟨1, 0⟩ : N2), N2.zero⟩ : N6)))))).toArray]
    [(1, .pointer (some ⟨tb, 0, none⟩))] (fun w' => St w0 w' [] ∧ TW w' tb bf bt bm P n size ((1 : Nat) : Int) fr) (fun w' => True) 999 none trivial (by kernel_rfl) rfl rfl
    (.cons (Fact.eq _) rfl (.cons (Fact.eq _) rfl (.cons (Fact.eq _) rfl (.cons (Fact.eq _) rfl (.cons (Fact.eq _) rfl (.cons (Fact.eq _) rfl (.cons (Fact.eq _) rfl (.cons (Fact.eq _) rfl (.cons (Fact.eq _) rfl (.cons (Fact.eq _) rfl (.cons (Fact.eq _) rfl (.cons (Fact.eq _) rfl (.cons (Fact.eq _) rfl (.cons (Fact.eq _) rfl (.nil _))))))))))))))) (fun w' h => ⟨hS0.out.next h, hT.out.next (hS0.out.next h).bl⟩) (fun w' h => trivial) (by kernel_rfl) (by exact ⟨rfl, trivial⟩) (.cons ?_ (.cons ?_ (.cons ?_ (.cons ?_ (.cons ?_ (.cons ?_ (.cons ?_ (.cons ?_ (.cons ?_ (.cons ?_ (.cons ?_ (.cons ?_ (.cons ?_ (.cons ?_ .nil)))))))))))))) ?_
  · refine Obl.plain rfl _ rfl rfl [] (by kernel_rfl) fun a W hF hC hD K hK => ?_
    have e1 : a.tmps.getD 1 undef = .pointer (some ⟨tb, 0, none⟩) := hF.1
    clear hF hD hC
    exact wp_move (.tmp 1) rfl e1 (hK _ _ rfl (Below.refl _ _))
  · refine Obl.plain rfl _ rfl rfl [] (by kernel_rfl) fun a W hF hC hD K hK => ?_
    clear hF hD hC
    exact wp_value (.agg (n2 N2.zero).toArray) (by kernel_rfl) (hK _ _ rfl (Below.refl _ _))
  · refine Obl.plain rfl _ rfl rfl [] (by kernel_rfl) fun a W hF hC hD K hK => ?_
    clear hF hD hC
    exact wp_value (.agg (n2 N2.zero).toArray) (by kernel_rfl) (hK _ _ rfl (Below.refl _ _))
  · refine Obl.plain rfl _ rfl rfl [] (by kernel_rfl) fun a W hF hC hD K hK => ?_
    clear hF hD hC
    exact wp_value (vE 1) (by kernel_rfl) (hK _ _ rfl (Below.refl _ _))
  · refine Obl.plain rfl _ rfl rfl [] (by kernel_rfl) fun a W hF hC hD K hK => ?_
    clear hF hD hC
    exact wp_value (vE 0) (by kernel_rfl) (hK _ _ rfl (Below.refl _ _))
  · refine Obl.plain rfl _ rfl rfl [3, 4] (by kernel_rfl) fun a W hF hC hD K hK => ?_
    have e17 : a.tmps.getD 17 undef = vE 1 := hD.1
    have e18 : a.tmps.getD 18 undef = vE 0 := hD.2.1
    clear hF hD hC
    exact wp_bld2 (.tmp 17) (.tmp 18) rfl e17 e18 Try.underlying60 Try.sz24 Try.zrF2' (ve_length _) (ve_length _) rfl (hK _ _ rfl (Below.refl _ _))
  · refine Obl.plain rfl _ rfl rfl [1, 2, 5] (by kernel_rfl) fun a W hF hC hD K hK => ?_
    have e15 : a.tmps.getD 15 undef = .agg (n2 N2.zero).toArray := hD.1
    have e16 : a.tmps.getD 16 undef = .agg (n2 N2.zero).toArray := hD.2.1
    have e19 : a.tmps.getD 19 undef = .agg (n2 ((⟨1, 0⟩ : N2))).toArray := hD.2.2.1
    clear hF hD hC
    exact wp_bld3 (.tmp 15) (.tmp 16) (.tmp 19) rfl e15 e16 e19 Try.underlying62 Try.szF2' Try.zrF6 (n2_len _) (n2_len _) (n2_len _) rfl (hK _ _ rfl (Below.refl _ _))
  · refine Obl.plain rfl _ rfl rfl [] (by kernel_rfl) fun a W hF hC hD K hK => ?_
    clear hF hD hC
    exact wp_value (.agg (n2 N2.zero).toArray) (by kernel_rfl) (hK _ _ rfl (Below.refl _ _))
  · refine Obl.plain rfl _ rfl rfl [] (by kernel_rfl) fun a W hF hC hD K hK => ?_
    clear hF hD hC
    exact wp_value (vE 1) (by kernel_rfl) (hK _ _ rfl (Below.refl _ _))
  · refine Obl.plain rfl _ rfl rfl [] (by kernel_rfl) fun a W hF hC hD K hK => ?_
    clear hF hD hC
    exact wp_value (vE 0) (by kernel_rfl) (hK _ _ rfl (Below.refl _ _))
  · refine Obl.plain rfl _ rfl rfl [8, 9] (by kernel_rfl) fun a W hF hC hD K hK => ?_
    have e22 : a.tmps.getD 22 undef = vE 1 := hD.1
    have e23 : a.tmps.getD 23 undef = vE 0 := hD.2.1
    clear hF hD hC
    exact wp_bld2 (.tmp 22) (.tmp 23) rfl e22 e23 Try.underlying60 Try.sz24 Try.zrF2' (ve_length _) (ve_length _) rfl (hK _ _ rfl (Below.refl _ _))
  · refine Obl.plain rfl _ rfl rfl [] (by kernel_rfl) fun a W hF hC hD K hK => ?_
    clear hF hD hC
    exact wp_value (.agg (n2 N2.zero).toArray) (by kernel_rfl) (hK _ _ rfl (Below.refl _ _))
  · refine Obl.plain rfl _ rfl rfl [7, 10, 11] (by kernel_rfl) fun a W hF hC hD K hK => ?_
    have e21 : a.tmps.getD 21 undef = .agg (n2 N2.zero).toArray := hD.1
    have e24 : a.tmps.getD 24 undef = .agg (n2 ((⟨1, 0⟩ : N2))).toArray := hD.2.1
    have e25 : a.tmps.getD 25 undef = .agg (n2 N2.zero).toArray := hD.2.2.1
    clear hF hD hC
    exact wp_bld3 (.tmp 21) (.tmp 24) (.tmp 25) rfl e21 e24 e25 Try.underlying62 Try.szF2' Try.zrF6 (n2_len _) (n2_len _) (n2_len _) rfl (hK _ _ rfl (Below.refl _ _))
  · refine Obl.plain rfl _ rfl rfl [0, 6, 12] (by kernel_rfl) fun a W hF hC hD K hK => ?_
    obtain ⟨c1, c2⟩ := hC
    have e14 : a.tmps.getD 14 undef = .pointer (some ⟨tb, 0, none⟩) := hD.1
    have e20 : a.tmps.getD 20 undef = .agg (n6 ((⟨N2.zero, N2.zero, (⟨1, 0⟩ : N2)⟩ : N6))).toArray := hD.2.1
    have e26 : a.tmps.getD 26 undef = .agg (n6 ((⟨N2.zero, (⟨1, 0⟩ : N2), N2.zero⟩ : N6))).toArray := hD.2.2.1
    clear hF hD
    exact wp_callV #[a.tmps.getD 14 undef, a.tmps.getD 20 undef, a.tmps.getD 26 undef] #[.pointer (some ⟨tb, 0, none⟩), .agg (n6 ((⟨N2.zero, N2.zero, (⟨1, 0⟩ : N2)⟩ : N6))).toArray, .agg (n6 ((⟨N2.zero, (⟨1, 0⟩ : N2), N2.zero⟩ : N6))).toArray] (.agg (n6 (o6 P (Z6.mul ((1 : Nat) : Int) (i6 ((⟨N2.zero, N2.zero, (⟨1, 0⟩ : N2)⟩ : N6))) (i6 ((⟨N2.zero, (⟨1, 0⟩ : N2), N2.zero⟩ : N6)))))).toArray) (by kernel_rfl) (by rw [e14, e20, e26]) (wmul6 ((⟨N2.zero, N2.zero, (⟨1, 0⟩ : N2)⟩ : N6)) ((⟨N2.zero, (⟨1, 0⟩ : N2), N2.zero⟩ : N6)) c2 ⟨ok2z, ok2z, ⟨ok1, ok0⟩⟩ ⟨ok2z, ⟨ok1, ok0⟩, ok2z⟩) (fun w' hb => hK _ _ rfl hb)
  rintro w1 hB hC _ rfl _ rfl _ rfl _ rfl _ rfl _ rfl _ rfl _ rfl _ rfl _ rfl _ rfl _ rfl _ rfl _ rfl
  change Below _ _ _ at hB
  change wpList _ _ _ _ _ _
  simp only [List.drop_succ_cons, List.drop_zero, Act.put, List.setIfInBounds_toArray, List.set_cons_zero, List.set_cons_succ]
  have hS1 := hide (hS0.out.next hB)
  clear hB hC hS0
  go_upto_region 5 with (first
    | ((with_reducible refine allocS (o := ⟨some 3, _, _, _, _, _⟩) ?_ 62 ?_ hS1.out (z0 36) Try.zrF6 ?_); rfl; rfl; intro wA b3 hS; have hA : Hid (St w0 wA [⟨b3, 62, z0 36⟩]) := hide hS; clear hS)
    | ((with_reducible refine storeWS (n := 36) (o := ⟨none, _, _, _, _, _⟩) ?_ 62 (.tmp 3) (.tmp 27) ?_ hA.out 0 (c := ⟨b3, 62, z0 36⟩) ?_ ?_ (n6 (o6 P (Z6.mul ((1 : Nat) : Int) (i6 ((⟨N2.zero, N2.zero, (⟨1, 0⟩ : N2)⟩ : N6))) (i6 ((⟨N2.zero, (⟨1, 0⟩ : N2), N2.zero⟩ : N6)))))) ?_ ?_ ?_ ?_ Try.szF6 ?_); rfl; rfl; rfl; rfl; rfl; rfl; rfl; rfl; intro wB hS hO; clear hO; have hS2 : Hid (St w0 wB [⟨b3, 62, n6 (o6 P (Z6.mul ((1 : Nat) : Int) (i6 ((⟨N2.zero, N2.zero, (⟨1, 0⟩ : N2)⟩ : N6))) (i6 ((⟨N2.zero, (⟨1, 0⟩ : N2), N2.zero⟩ : N6)))))⟩]) := hide hS; clear hS))
  clear hA hS1
  go_upto_region 5 with fail
  refine region_sq 18 45 [fun v _ => v = .agg (n6 (o6 P (Z6.mul ((1 : Nat) : Int) (i6 ((⟨N2.zero, N2.zero, (⟨1, 0⟩ : N2)⟩ : N6))) (i6 ((⟨N2.zero, (⟨1, 0⟩ : N2), N2.zero⟩ : N6)))))).toArray, fun v _ => v = vE 1, fun v _ => v = vE 1, fun v _ => v = .agg (n2 ((⟨1, 1⟩ : N2))).toArray, fun v _ => v = .agg (n2 N2.zero).toArray, fun v _ => v = .agg (n2 N2.zero).toArray, fun v _ => v = .agg (n6 ((⟨(⟨1, 1⟩ : N2), N2.zero, N2.zero⟩ : N6))).toArray, fun v _ => v = .bool true, fun v _ => v = .bool true, fun v _ => v = .pointer (some ⟨tb, 0, none⟩), fun v _ => v = .agg (n12 (o12 P Z12.one)).toArray, fun v _ => v = vE 1, fun v _ => v = .agg (n2 ((⟨1, 0⟩ : N2))).toArray, fun v _ => v = .agg (n6 ((⟨(⟨1, 0⟩ : N2), N2.zero, N2.zero⟩ : N6))).toArray, fun v _ => v = .agg (n12 ((⟨(⟨(⟨1, 0⟩ : N2), N2.zero, N2.zero⟩ : N6), N6.zero⟩ : N12))).toArray, fun v _ => v = .bool true, fun v _ => v = .bool true, fun v _ => v = .bool true]
    [(3, .pointer (some ⟨b3, 0, none⟩)), (1, .pointer (some ⟨tb, 0, none⟩))] (fun w' => St w0 w' [⟨b3, 62, n6 (o6 P (Z6.mul ((1 : Nat) : Int) (i6 ((⟨N2.zero, N2.zero, (⟨1, 0⟩ : N2)⟩ : N6))) (i6 ((⟨N2.zero, (⟨1, 0⟩ : N2), N2.zero⟩ : N6)))))⟩] ∧ TW w' tb bf bt bm P n size ((1 : Nat) : Int) fr) (fun w' => True) 999 none trivial (by kernel_rfl) rfl rfl
    (.cons (Fact.eq _) rfl (.cons (Fact.eq _) rfl (.cons (Fact.eq _) rfl (.cons (Fact.eq _) rfl (.cons (Fact.eq _) rfl (.cons (Fact.eq _) rfl (.cons (Fact.eq _) rfl (.cons (Fact.eq _) rfl (.cons (Fact.eq _) rfl (.cons (Fact.eq _) rfl (.cons (Fact.eq _) rfl (.cons (Fact.eq _) rfl (.cons (Fact.eq _) rfl (.cons (Fact.eq _) rfl (.cons (Fact.eq _) rfl (.cons (Fact.eq _) rfl (.cons (Fact.eq _) rfl (.cons (Fact.eq _) rfl (.nil _))))))))))))))))))) (fun w' h => ⟨hS2.out.next h, hT.out.next (hS2.out.next h).bl⟩) (fun w' h => trivial) (by kernel_rfl) (by exact ⟨rfl, rfl, trivial⟩) (.cons ?_ (.cons ?_ (.cons ?_ (.cons ?_ (.cons ?_ (.cons ?_ (.cons ?_ (.cons ?_ (.cons ?_ (.cons ?_ (.cons ?_ (.cons ?_ (.cons ?_ (.cons ?_ (.cons ?_ (.cons ?_ (.cons ?_ (.cons ?_ .nil)))))))))))))))))) ?_
  · refine Obl.plain rfl _ rfl rfl [] (by kernel_rfl) fun a W hF hC hD K hK => ?_
    obtain ⟨c1, c2⟩ := hC
    have e3 : a.tmps.getD 3 undef = .pointer (some ⟨b3, 0, none⟩) := hF.1
    clear hF hD
    exact wpLd 62 (.tmp 3) rfl (c1.vb 0 _ rfl) 0 e3 (n6 (o6 P (Z6.mul ((1 : Nat) : Int) (i6 ((⟨N2.zero, N2.zero, (⟨1, 0⟩ : N2)⟩ : N6))) (i6 ((⟨N2.zero, (⟨1, 0⟩ : N2), N2.zero⟩ : N6)))))) (part_all _ (n6_len _)) (n6_len _) Try.underlying62 rfl Try.szF6 (hK _ _ rfl (Below.refl _ _))
  · refine Obl.plain rfl _ rfl rfl [] (by kernel_rfl) fun a W hF hC hD K hK => ?_
    clear hF hD hC
    exact wp_value (vE 1) (by kernel_rfl) (hK _ _ rfl (Below.refl _ _))
  · refine Obl.plain rfl _ rfl rfl [] (by kernel_rfl) fun a W hF hC hD K hK => ?_
    clear hF hD hC
    exact wp_value (vE 1) (by kernel_rfl) (hK _ _ rfl (Below.refl _ _))
  · refine Obl.plain rfl _ rfl rfl [1, 2] (by kernel_rfl) fun a W hF hC hD K hK => ?_
    have e29 : a.tmps.getD 29 undef = vE 1 := hD.1
    have e30 : a.tmps.getD 30 undef = vE 1 := hD.2.1
    clear hF hD hC
    exact wp_bld2 (.tmp 29) (.tmp 30) rfl e29 e30 Try.underlying60 Try.sz24 Try.zrF2' (ve_length _) (ve_length _) rfl (hK _ _ rfl (Below.refl _ _))
  · refine Obl.plain rfl _ rfl rfl [] (by kernel_rfl) fun a W hF hC hD K hK => ?_
    clear hF hD hC
    exact wp_value (.agg (n2 N2.zero).toArray) (by kernel_rfl) (hK _ _ rfl (Below.refl _ _))
  · refine Obl.plain rfl _ rfl rfl [] (by kernel_rfl) fun a W hF hC hD K hK => ?_
    clear hF hD hC
    exact wp_value (.agg (n2 N2.zero).toArray) (by kernel_rfl) (hK _ _ rfl (Below.refl _ _))
  · refine Obl.plain rfl _ rfl rfl [3, 4, 5] (by kernel_rfl) fun a W hF hC hD K hK => ?_
    have e31 : a.tmps.getD 31 undef = .agg (n2 ((⟨1, 1⟩ : N2))).toArray := hD.1
    have e32 : a.tmps.getD 32 undef = .agg (n2 N2.zero).toArray := hD.2.1
    have e33 : a.tmps.getD 33 undef = .agg (n2 N2.zero).toArray := hD.2.2.1
    clear hF hD hC
    exact wp_bld3 (.tmp 31) (.tmp 32) (.tmp 33) rfl e31 e32 e33 Try.underlying62 Try.szF2' Try.zrF6 (n2_len _) (n2_len _) (n2_len _) rfl (hK _ _ rfl (Below.refl _ _))
  · refine Obl.plain rfl _ rfl rfl [0, 6] (by kernel_rfl) fun a W hF hC hD K hK => ?_
    have e28 : a.tmps.getD 28 undef = .agg (n6 (o6 P (Z6.mul ((1 : Nat) : Int) (i6 ((⟨N2.zero, N2.zero, (⟨1, 0⟩ : N2)⟩ : N6))) (i6 ((⟨N2.zero, (⟨1, 0⟩ : N2), N2.zero⟩ : N6)))))).toArray := hD.1
    have e34 : a.tmps.getD 34 undef = .agg (n6 ((⟨(⟨1, 1⟩ : N2), N2.zero, N2.zero⟩ : N6))).toArray := hD.2.1
    clear hF hD hC
    exact wp_eqlA (xs := n6 (o6 P (Z6.mul ((1 : Nat) : Int) (i6 ((⟨N2.zero, N2.zero, (⟨1, 0⟩ : N2)⟩ : N6))) (i6 ((⟨N2.zero, (⟨1, 0⟩ : N2), N2.zero⟩ : N6)))))) (ys := n6 ((⟨(⟨1, 1⟩ : N2), N2.zero, N2.zero⟩ : N6))) (.tmp 28) (.tmp 34) _ _ rfl e28 e34 Try.egF6 (b := true) ((eqF6 9996 (o6 P (Z6.mul ((1 : Nat) : Int) (i6 ((⟨N2.zero, N2.zero, (⟨1, 0⟩ : N2)⟩ : N6))) (i6 ((⟨N2.zero, (⟨1, 0⟩ : N2), N2.zero⟩ : N6))))) ((⟨(⟨1, 1⟩ : N2), N2.zero, N2.zero⟩ : N6))).trans (congrArg (fun b => Result.ok b W) (q6_of (wake1 hP1.out)))) (hK _ _ rfl (Below.refl _ _))
  · refine Obl.plain rfl _ rfl rfl [7] (by kernel_rfl) fun a W hF hC hD K hK => ?_
    have e35 : a.tmps.getD 35 undef = .bool true := hD.1
    clear hF hD hC
    exact wp_move (.tmp 35) rfl e35 (hK _ _ rfl (Below.refl _ _))
  · refine Obl.guarded rfl _ rfl 8 true 36 rfl rfl [8] (by kernel_rfl) (fun a W hF hC hD => hD.1) fun a W hF hC hD K hK => ?_
    have e1 : a.tmps.getD 1 undef = .pointer (some ⟨tb, 0, none⟩) := hF.2.1
    clear hF hD hC
    exact wp_move (.tmp 1) rfl e1 (hK _ _ rfl (Below.refl _ _))
  · refine Obl.guarded rfl _ rfl 8 true 36 rfl rfl [9, 8, 8] (by kernel_rfl) (fun a W hF hC hD => hD.2.1) fun a W hF hC hD K hK => ?_
    obtain ⟨c1, c2⟩ := hC
    have e37 : a.tmps.getD 37 undef = .pointer (some ⟨tb, 0, none⟩) := hD.1
    clear hF hD
    exact wp_callV #[a.tmps.getD 37 undef] #[.pointer (some ⟨tb, 0, none⟩)] (.agg (n12 (o12 P Z12.one)).toArray) (by kernel_rfl) (by rw [e37]) (wone12 c2) (fun w' hb => hK _ _ rfl hb)
  · refine Obl.guarded rfl _ rfl 8 true 36 rfl rfl [8] (by kernel_rfl) (fun a W hF hC hD => hD.1) fun a W hF hC hD K hK => ?_
    clear hF hD hC
    exact wp_value (vE 1) (by kernel_rfl) (hK _ _ rfl (Below.refl _ _))
  · refine Obl.guarded rfl _ rfl 8 true 36 rfl rfl [11, 8] (by kernel_rfl) (fun a W hF hC hD => hD.2.1) fun a W hF hC hD K hK => ?_
    have e39 : a.tmps.getD 39 undef = vE 1 := hD.1
    clear hF hD hC
    exact wp_bld1 (.tmp 39) rfl e39 Try.underlying60 Try.sz24 Try.zrF2' (ve_length _) (by decide) (hK _ _ (pad_n2 1) (Below.refl _ _))
  · refine Obl.guarded rfl _ rfl 8 true 36 rfl rfl [12, 8] (by kernel_rfl) (fun a W hF hC hD => hD.2.1) fun a W hF hC hD K hK => ?_
    have e40 : a.tmps.getD 40 undef = .agg (n2 ((⟨1, 0⟩ : N2))).toArray := hD.1
    clear hF hD hC
    exact wp_bld1 (.tmp 40) rfl e40 Try.underlying62 Try.szF2' Try.zrF6 (n2_len _) (by decide) (hK _ _ (pad_n6 ((⟨1, 0⟩ : N2))) (Below.refl _ _))
  · refine Obl.guarded rfl _ rfl 8 true 36 rfl rfl [13, 8] (by kernel_rfl) (fun a W hF hC hD => hD.2.1) fun a W hF hC hD K hK => ?_
    have e41 : a.tmps.getD 41 undef = .agg (n6 ((⟨(⟨1, 0⟩ : N2), N2.zero, N2.zero⟩ : N6))).toArray := hD.1
    clear hF hD hC
    exact wp_bld1 (.tmp 41) rfl e41 Try.underlying64 Try.szF6 Try.zrF12 (n6_len _) (by decide) (hK _ _ (pad_n12 ((⟨(⟨1, 0⟩ : N2), N2.zero, N2.zero⟩ : N6))) (Below.refl _ _))
  · refine Obl.guarded rfl _ rfl 8 true 36 rfl rfl [10, 14, 8] (by kernel_rfl) (fun a W hF hC hD => hD.2.2.1) fun a W hF hC hD K hK => ?_
    have e38 : a.tmps.getD 38 undef = .agg (n12 (o12 P Z12.one)).toArray := hD.1
    have e42 : a.tmps.getD 42 undef = .agg (n12 ((⟨(⟨(⟨1, 0⟩ : N2), N2.zero, N2.zero⟩ : N6), N6.zero⟩ : N12))).toArray := hD.2.1
    clear hF hD hC
    exact wp_eqlA (xs := n12 (o12 P Z12.one)) (ys := n12 ((⟨(⟨(⟨1, 0⟩ : N2), N2.zero, N2.zero⟩ : N6), N6.zero⟩ : N12))) (.tmp 38) (.tmp 42) _ _ rfl e38 e42 Try.egF12 (b := true) ((eqF12 9995 (o12 P Z12.one) ((⟨(⟨(⟨1, 0⟩ : N2), N2.zero, N2.zero⟩ : N6), N6.zero⟩ : N12))).trans (congrArg (fun b => Result.ok b W) (q12_of (wake2 hP1.out)))) (hK _ _ rfl (Below.refl _ _))
  · refine Obl.plain rfl _ rfl rfl [8, 15] (by kernel_rfl) fun a W hF hC hD K hK => ?_
    have e36 : a.tmps.getD 36 undef = .bool true := hD.1
    have e43 : a.tmps.getD 43 undef = .bool true := hD.2.1
    clear hF hD hC
    exact wp_pick (.tmp 36) (.tmp 43) (.const (.bool false)) rfl (b := true) e36 e43 (hK _ _ rfl (Below.refl _ _))
  · refine Obl.plain rfl _ rfl rfl [16, 10, 0, 1, 2, 3, 4, 5, 6, 7, 8, 9, 10, 11, 12, 13, 14, 15, 16] (by kernel_rfl) fun a W hF hC hD K hK => ?_
    have e44 : a.tmps.getD 44 undef = .bool true := hD.1
    clear hF hD hC
    exact wp_assign (.tmp 44) rfl e44 (hK _ _ rfl (Below.refl _ _))
  rintro w3 hB hC _ rfl _ rfl _ rfl _ rfl _ rfl _ rfl _ rfl _ rfl _ rfl _ rfl _ rfl _ rfl _ rfl _ rfl _ rfl _ rfl _ rfl _ rfl
  change Below _ _ _ at hB
  change wpList _ _ _ _ _ _
  simp only [List.drop_succ_cons, List.drop_zero, Act.put, List.setIfInBounds_toArray, List.set_cons_zero, List.set_cons_succ]
  have hS3 := hide (hS2.out.next hB)
  clear hB hC hS2
  go_wp2_with fail
  go_ret
  exact ⟨rfl, below_next hB.out hS3.out.bl⟩
end Go.Proofs.Ytincemkjdgbnnaa
