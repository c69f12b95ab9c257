/- Walks: law07.TowerLaws -/
import Derived.Test.YtincemkjdgbnnaaTwL
import Derived.Test.YtincemkjdgbnnaaTwK
set_option linter.unusedVariables false
set_option linter.unusedSimpArgs false
namespace Go.Proofs.Ytincemkjdgbnnaa
open Go.RowKit Lm

/-- the question's cells. -/
def ask7 (k : Int) (A B C : N12) (E T : Value) : List Value := .int .i64 k :: (n12 A ++ (n12 B ++ (n12 C ++ [E, T])))
theorem ask_a (k : Int) (A B C : N12) (E T : Value) : ((ask7 k A B C E T).drop 1).take 72 = n12 A := take_app _ _ (n12_len _)
theorem ask_b (k : Int) (A B C : N12) (E T : Value) : ((ask7 k A B C E T).drop 73).take 72 = n12 B := by
  show ((n12 A ++ (n12 B ++ (n12 C ++ [E, T]))).drop 72).take 72 = _
  rw [drop_app _ _ (n12_len A)]; exact take_app _ _ (n12_len _)
theorem ask_c (k : Int) (A B C : N12) (E T : Value) : ((ask7 k A B C E T).drop 145).take 72 = n12 C := by
  show ((n12 A ++ (n12 B ++ (n12 C ++ [E, T]))).drop (72 + 72)).take 72 = _
  rw [← List.drop_drop, drop_app _ _ (n12_len A), drop_app _ _ (n12_len B)]; exact take_app _ _ (n12_len _)
theorem Try.fldK0 (b : Nat) (w : World) : (Instr.fieldAt 66 (.pointer (some ⟨b, 0, none⟩)) 0).run Try.prog w = .ok (.pointer (some ⟨b, 0, none⟩)) w := by kernel_rfl
theorem Try.fldK1 (b : Nat) (w : World) : (Instr.fieldAt 66 (.pointer (some ⟨b, 0, none⟩)) 1).run Try.prog w = .ok (.pointer (some ⟨b, 1, none⟩)) w := by kernel_rfl
theorem Try.fldK2 (b : Nat) (w : World) : (Instr.fieldAt 66 (.pointer (some ⟨b, 0, none⟩)) 2).run Try.prog w = .ok (.pointer (some ⟨b, 73, none⟩)) w := by kernel_rfl
theorem Try.fldK3 (b : Nat) (w : World) : (Instr.fieldAt 66 (.pointer (some ⟨b, 0, none⟩)) 3).run Try.prog w = .ok (.pointer (some ⟨b, 145, none⟩)) w := by kernel_rfl
theorem Try.fldK4 (b : Nat) (w : World) : (Instr.fieldAt 66 (.pointer (some ⟨b, 0, none⟩)) 4).run Try.prog w = .ok (.pointer (some ⟨b, 217, none⟩)) w := by kernel_rfl
theorem Try.fldK5 (b : Nat) (w : World) : (Instr.fieldAt 66 (.pointer (some ⟨b, 0, none⟩)) 5).run Try.prog w = .ok (.pointer (some ⟨b, 218, none⟩)) w := by kernel_rfl

set_option maxRecDepth 100000 in
set_option maxHeartbeats 6400000 in
theorem tlaws_c (k : Int) (A B C : N12) (E T : Value) (w : World) (hk : isCurve k) (hA : n12ok A) (hB : n12ok B) (hC : n12ok C) :
    Calls Try.prog 10 #[.agg (ask7 k A B C E T).toArray] w fun e w' => e = .returned (.bool true) ∧ Below w.heap.size w w' := by
  have Hboth := hide (fun W => both7_c W hk)
  unfold RetB7 at Hboth
  generalize (cN k : Int) = N at *
  generalize cN k = Nn at *
  generalize fr6 (kP (cK k)) (kn (cK k)) N = fr at *
  generalize kP (cK k) = P at *
  generalize kn (cK k) = n at *
  generalize ksz (cK k) = size at *
  have hA := hide hA
  have hB := hide hB
  have hC := hide hC
  have hq0 := hide (St.start w)
  go_enter Try.func10, Try.ntmps10
  have hk0 : (ask7 k A B C E T)[0]? = some (.int .i64 k) := rfl
  go_upto_region 1 with ((with_reducible refine boxS (o := ⟨some 1, _, _, _, _, _⟩) ?_ 66 (.tmp 0) ?_ hq0.out (ask7 k A B C E T) ?_ ?_); rfl; rfl; rfl; intro w1 b1 hS; have hq1 : Hid (St w w1 [⟨b1, 66, ask7 k A B C E T⟩]) := hide hS; clear hS)
  have r0 : w1.cell? ⟨b1, 0, none⟩ = some (.int .i64 k) := ((hq1.out.vb 0 _ rfl).cell 0).trans rfl
  go_upto_region 4 with (first
    | (go_at_call 41; refine (Hboth.out w1).mono ?_; rintro e w2 ⟨tb, bf, bt, bm, Ad, cd, Ad', cd', rfl, hT, hd1, hd2, hd3, hd4, hB2⟩; clear hd1 hd2 hd3 hd4; replace hT := hide hT; replace hB2 := hide hB2; have hq2 := hide (hq1.out.next hB2.out))
    | ((with_reducible refine allocSN (o := ⟨some 4, _, _, _, _, _⟩) ?_ 69 ?_ hq2.out vT0 Try.zrT ?_); rfl; rfl; intro w3 b4 hS hlo4 hbl4; have hq3 : Hid (St w w3 [⟨b1, 66, ask7 k A B C E T⟩, ⟨b4, 69, vT0⟩]) := hide hS; clear hS)
    | ((with_reducible refine storeWS (n := 3) (o := ⟨none, _, _, _, _, _⟩) ?_ 69 (.tmp 4) (.tmp 19) ?_ hq3.out 1 (c := ⟨b4, 69, vT0⟩) ?_ ?_ (vT Ad P cd size Ad' Nn cd') ?_ ?_ ?_ ?_ Try.szT ?_); rfl; rfl; rfl; rfl; rfl; rfl; rfl; rfl; intro w0 hS hO; have hq4 : Hid (St w w0 [⟨b1, 66, ask7 k A B C E T⟩, ⟨b4, 69, vT Ad P cd size Ad' Nn cd'⟩]) := hide hS; have hO4 := hO; clear hS hO))
  replace hT := hide ((hT.out.next hbl4).onlyB hO4.out ⟨Nat.ne_of_lt (Nat.lt_of_lt_of_le hT.out.vb.lt hlo4), Nat.ne_of_lt (Nat.lt_of_lt_of_le hT.out.fq.vb.lt hlo4), Nat.ne_of_lt (Nat.lt_of_lt_of_le hT.out.tb.vb.lt hlo4), Nat.ne_of_lt (Nat.lt_of_lt_of_le hT.out.tb.fb.vb.lt hlo4)⟩)
  have hV := hide (hq4.out.vb 0 _ rfl)
  have hP := hide (And.intro hT.out.fq.pos hT.out.fq.lt6)
  have hB0 := hide hq4.out.bl
  have hS0 := hide (St.start w0)
  clear hq0 hq1 hq2 hq3 hq4 hB2 hO4 hlo4 hbl4 r0 hk0 Hboth
  go_upto_region 4 with fail
  refine region_loc 12 172 [fun v _ => v = .pointer (some ⟨b1, 1, none⟩), fun v _ => v = .agg (n12 A).toArray, fun v _ => v = .pointer (some ⟨b1, 73, none⟩), fun v _ => v = .agg (n12 B).toArray, fun v _ => v = .pointer (some ⟨b1, 145, none⟩), fun v _ => v = .agg (n12 C).toArray, fun _ _ => True, fun _ _ => True, fun _ _ => True, fun _ _ => True, fun _ _ => True, fun _ _ => True]
    [(1, .pointer (some ⟨b1, 0, none⟩))] (fun w' => St w0 w' [] ∧ TW w' tb bf bt bm P n size N fr ∧ VB w' b1 66 (ask7 k A B C E T)) [6, 7, 8] 64 (z0 72) [(9, 6, n12 A), (10, 7, n12 B), (11, 8, n12 C)] (by kernel_rfl) (by kernel_rfl) rfl rfl
    (.cons (factB_eq _) (.cons (factB_eq _) (.cons (factB_eq _) (.cons (factB_eq _) (.cons (factB_eq _) (.cons (factB_eq _) (.cons (fun _ _ _ _ _ _ => trivial) (.cons (fun _ _ _ _ _ _ => trivial) (.cons (fun _ _ _ _ _ _ => trivial) (.cons (fun _ _ _ _ _ _ => trivial) (.cons (fun _ _ _ _ _ _ => trivial) (.cons (fun _ _ _ _ _ _ => trivial) .nil)))))))))))) (by kernel_rfl) (fun w' h => ⟨hS0.out.next h, hT.out.next (hS0.out.next h).bl, hV.out.next (hS0.out.next h).bl⟩) (by kernel_rfl) (by exact ⟨rfl, trivial⟩) (by kernel_rfl) (allC ⟨⟨_, _, rfl, rfl, rfl, rfl⟩⟩ (allC ⟨⟨_, _, rfl, rfl, rfl, rfl⟩⟩ (allC ⟨⟨_, _, rfl, rfl, rfl, rfl⟩⟩ allN))) (allC (fun _ _ => trivial) (allC (fun _ _ => trivial) (allC (fun _ _ => trivial) allN))) (by rfl) (allC ⟨⟨_, 7, 26, 1, rfl, rfl, rfl, rfl, rfl, rfl, by kernel_rfl, by kernel_rfl, fun v w h => h⟩⟩ (allC ⟨⟨_, 8, 28, 3, rfl, rfl, rfl, rfl, rfl, rfl, by kernel_rfl, by kernel_rfl, fun v w h => h⟩⟩ (allC ⟨⟨_, 9, 30, 5, rfl, rfl, rfl, rfl, rfl, rfl, by kernel_rfl, by kernel_rfl, fun v w h => h⟩⟩ allN))) (allC (fun _ _ => trivial) (allC (fun _ _ => trivial) (allC (fun _ _ => trivial) allN))) (show ([9, 10, 11] : List Nat).Nodup by decide) Try.zrF12 Try.szF12 (.cons (fun _ _ => ?_) (.cons (fun _ _ => ?_) (.cons (fun _ _ => ?_) (.cons (fun _ _ => ?_) (.cons (fun _ _ => ?_) (.cons (fun _ _ => ?_) (.cons (fun h _ => absurd h (by decide)) (.cons (fun h _ => absurd h (by decide)) (.cons (fun h _ => absurd h (by decide)) (.cons (fun _ h => absurd (show true = false from h) (by decide)) (.cons (fun _ h => absurd (show true = false from h) (by decide)) (.cons (fun _ h => absurd (show true = false from h) (by decide)) .nil)))))))))))) ?_
  · refine Obl.plain rfl _ rfl rfl [] (by kernel_rfl) fun a W hF hC hD K hK => ?_
    have e1 : a.tmps.getD 1 undef = .pointer (some ⟨b1, 0, none⟩) := hF.1
    clear hF hD hC
    exact wp_fld (.tmp 1) rfl e1 (Try.fldK1 _ W) (hK _ _ rfl (Below.refl _ _))
  · refine Obl.plain rfl _ rfl rfl [0] (by kernel_rfl) fun a W hF hC hD K hK => ?_
    obtain ⟨c1, c2, c3⟩ := hC
    have e25 : a.tmps.getD 25 undef = .pointer (some ⟨b1, 1, none⟩) := hD.1
    clear hF hD
    exact wpLd 64 (.tmp 25) rfl c3 1 e25 (n12 A) (ask_a k A B C E T) (n12_len _) Try.underlying64 rfl Try.szF12 (hK _ _ rfl (Below.refl _ _))
  · refine Obl.plain rfl _ rfl rfl [] (by kernel_rfl) fun a W hF hC hD K hK => ?_
    have e1 : a.tmps.getD 1 undef = .pointer (some ⟨b1, 0, none⟩) := hF.1
    clear hF hD hC
    exact wp_fld (.tmp 1) rfl e1 (Try.fldK2 _ W) (hK _ _ rfl (Below.refl _ _))
  · refine Obl.plain rfl _ rfl rfl [2] (by kernel_rfl) fun a W hF hC hD K hK => ?_
    obtain ⟨c1, c2, c3⟩ := hC
    have e27 : a.tmps.getD 27 undef = .pointer (some ⟨b1, 73, none⟩) := hD.1
    clear hF hD
    exact wpLd 64 (.tmp 27) rfl c3 73 e27 (n12 B) (ask_b k A B C E T) (n12_len _) Try.underlying64 rfl Try.szF12 (hK _ _ rfl (Below.refl _ _))
  · refine Obl.plain rfl _ rfl rfl [] (by kernel_rfl) fun a W hF hC hD K hK => ?_
    have e1 : a.tmps.getD 1 undef = .pointer (some ⟨b1, 0, none⟩) := hF.1
    clear hF hD hC
    exact wp_fld (.tmp 1) rfl e1 (Try.fldK3 _ W) (hK _ _ rfl (Below.refl _ _))
  · refine Obl.plain rfl _ rfl rfl [4] (by kernel_rfl) fun a W hF hC hD K hK => ?_
    obtain ⟨c1, c2, c3⟩ := hC
    have e29 : a.tmps.getD 29 undef = .pointer (some ⟨b1, 145, none⟩) := hD.1
    clear hF hD
    exact wpLd 64 (.tmp 29) rfl c3 145 e29 (n12 C) (ask_c k A B C E T) (n12_len _) Try.underlying64 rfl Try.szF12 (hK _ _ rfl (Below.refl _ _))
  rintro w1 bs hB hC hAl hDl hSl _ rfl _ rfl _ rfl _ rfl _ rfl _ rfl _ rfl _ rfl _ rfl _ - _ - _ -
  obtain ⟨hlb7, Lb7, hvb7, hnb7⟩ := hAl 6 (by decide)
  obtain ⟨hlb8, Lb8, hvb8, hnb8⟩ := hAl 7 (by decide)
  obtain ⟨hlb9, Lb9, hvb9, hnb9⟩ := hAl 8 (by decide)
  have hdb7b8 := hDl 6 7 (by decide) (by decide) (by decide)
  have hdb7b9 := hDl 6 8 (by decide) (by decide) (by decide)
  have hdb8b9 := hDl 7 8 (by decide) (by decide) (by decide)
  have hsb7 := hSl _ (.head _)
  have hsb8 := hSl _ (.tail _ (.head _))
  have hsb9 := hSl _ (.tail _ (.tail _ (.head _)))
  clear hAl hDl hSl
  change _ ≤ bs 6 at hlb7
  change _ ≤ bs 7 at hlb8
  change _ ≤ bs 8 at hlb9
  change VB _ (bs 6) _ _ at hsb7
  change VB _ (bs 7) _ _ at hsb8
  change VB _ (bs 8) _ _ at hsb9
  change wpList _ _ _ _ _ _
  simp only [List.drop_succ_cons, List.drop_zero, Act.put, List.setIfInBounds_toArray, List.set_cons_zero, List.set_cons_succ]
  generalize bs 6 = b7 at *
  generalize bs 7 = b8 at *
  generalize bs 8 = b9 at *
  clear bs
  have hS1 : Hid (St w0 w1 [⟨b7, 64, n12 A⟩, ⟨b8, 64, n12 B⟩, ⟨b9, 64, n12 C⟩]) := hide (hS0.out.pushL hB [⟨b7, 64, n12 A⟩, ⟨b8, 64, n12 B⟩, ⟨b9, 64, n12 C⟩] ⟨hlb7, hsb7, (fun d hd => by simp at hd; rcases hd with rfl | rfl; exact hdb7b8; exact hdb7b9), hlb8, hsb8, (fun d hd => by simp at hd; subst hd; exact hdb8b9), hlb9, hsb9, (fun d hd => by cases hd), trivial⟩)
  clear hB hC hS0 hlb7 hsb7 hvb7 hnb7 hlb8 hsb8 hvb8 hnb8 hlb9 hsb9 hvb9 hnb9 hdb7b8 hdb7b9 hdb8b9
  go_upto_region 5 with fail
  refine region_do 41 172 [fun v _ => v = .pointer (some ⟨tb, 0, none⟩), fun v _ => v = .agg (n12 A).toArray, fun v _ => v = .agg (n12 B).toArray, fun v _ => v = .agg (n12 (o12 P (Z12.mul N (i12 A) (i12 B)))).toArray, fun v _ => v = .pointer (some ⟨tb, 0, none⟩), fun v _ => v = .agg (n12 B).toArray, fun v _ => v = .agg (n12 A).toArray, fun v _ => v = .agg (n12 (o12 P (Z12.mul N (i12 B) (i12 A)))).toArray, fun v _ => v = .bool false, fun v _ => v = .bool false, fun v _ => v = .pointer (some ⟨tb, 0, none⟩), fun v _ => v = .pointer (some ⟨tb, 0, none⟩), fun v _ => v = .agg (n12 A).toArray, fun v _ => v = .agg (n12 B).toArray, fun v _ => v = .agg (n12 (o12 P (Z12.mul N (i12 A) (i12 B)))).toArray, fun v _ => v = .agg (n12 C).toArray, fun v _ => v = .agg (n12 (o12 P (Z12.mul N (i12 (o12 P (Z12.mul N (i12 A) (i12 B)))) (i12 C)))).toArray, fun v _ => v = .pointer (some ⟨tb, 0, none⟩), fun v _ => v = .agg (n12 A).toArray, fun v _ => v = .pointer (some ⟨tb, 0, none⟩), fun v _ => v = .agg (n12 B).toArray, fun v _ => v = .agg (n12 C).toArray, fun v _ => v = .agg (n12 (o12 P (Z12.mul N (i12 B) (i12 C)))).toArray, fun v _ => v = .agg (n12 (o12 P (Z12.mul N (i12 A) (i12 (o12 P (Z12.mul N (i12 B) (i12 C))))))).toArray, fun v _ => v = .bool false, fun v _ => v = .bool false, fun v _ => v = .bool false, fun v _ => v = .pointer (some ⟨tb, 0, none⟩), fun v _ => v = .pointer (some ⟨b7, 0, none⟩), fun v _ => v = .agg (n6 A.a).toArray, fun v _ => v = .pointer (some ⟨b8, 0, none⟩), fun v _ => v = .agg (n6 B.a).toArray, fun v _ => v = .agg (n6 (o6 P (Z6.mul N (i6 A.a) (i6 B.a)))).toArray, fun v _ => v = .pointer (some ⟨tb, 0, none⟩), fun v _ => v = .pointer (some ⟨b8, 0, none⟩), fun v _ => v = .agg (n6 B.a).toArray, fun v _ => v = .pointer (some ⟨b7, 0, none⟩), fun v _ => v = .agg (n6 A.a).toArray, fun v _ => v = .agg (n6 (o6 P (Z6.mul N (i6 B.a) (i6 A.a)))).toArray, fun v _ => v = .bool false, fun v _ => v = .bool false]
    [(3, .pointer (some ⟨tb, 0, none⟩)), (7, .pointer (some ⟨b7, 0, none⟩)), (8, .pointer (some ⟨b8, 0, none⟩)), (9, .pointer (some ⟨b9, 0, none⟩))] (fun w' => St w0 w' [⟨b7, 64, n12 A⟩, ⟨b8, 64, n12 B⟩, ⟨b9, 64, n12 C⟩] ∧ TW w' tb bf bt bm P n size N fr ∧ VB w' b1 66 (ask7 k A B C E T)) (fun w' => True) 999 none (by kernel_rfl) (by kernel_rfl) rfl rfl
    (.cons (Fact.eq _) rfl (.cons (Fact.eq _) rfl (.cons (Fact.eq _) rfl (.cons (Fact.eq _) rfl (.cons (Fact.eq _) rfl (.cons (Fact.eq _) rfl (.cons (Fact.eq _) rfl (.cons (Fact.eq _) rfl (.cons (Fact.eq _) rfl (.cons (Fact.eq _) rfl (.cons (Fact.eq _) rfl (.cons (Fact.eq _) rfl (.cons (Fact.eq _) rfl (.cons (Fact.eq _) rfl (.cons (Fact.eq _) rfl (.cons (Fact.eq _) rfl (.cons (Fact.eq _) rfl (.cons (Fact.eq _) rfl (.cons (Fact.eq _) rfl (.cons (Fact.eq _) rfl (.cons (Fact.eq _) rfl (.cons (Fact.eq _) rfl (.cons (Fact.eq _) rfl (.cons (Fact.eq _) rfl (.cons (Fact.eq _) rfl (.cons (Fact.eq _) rfl (.cons (Fact.eq _) rfl (.cons (Fact.eq _) rfl (.cons (Fact.eq _) rfl (.cons (Fact.eq _) rfl (.cons (Fact.eq _) rfl (.cons (Fact.eq _) rfl (.cons (Fact.eq _) rfl (.cons (Fact.eq _) rfl (.cons (Fact.eq _) rfl (.cons (Fact.eq _) rfl (.cons (Fact.eq _) rfl (.cons (Fact.eq _) rfl (.cons (Fact.eq _) rfl (.cons (Fact.eq _) rfl (.cons (Fact.eq _) rfl (.nil _)))))))))))))))))))))))))))))))))))))))))) (fun w' h => ⟨hS1.out.next h, hT.out.next (hS1.out.next h).bl, hV.out.next (hS1.out.next h).bl⟩) (fun w' h => trivial) (by kernel_rfl) (by exact ⟨rfl, rfl, rfl, rfl, trivial⟩) (.cons ?_ (.cons ?_ (.cons ?_ (.cons ?_ (.cons ?_ (.cons ?_ (.cons ?_ (.cons ?_ (.cons ?_ (.cons ?_ (.cons ?_ (.cons ?_ (.cons ?_ (.cons ?_ (.cons ?_ (.cons ?_ (.cons ?_ (.cons ?_ (.cons ?_ (.cons ?_ (.cons ?_ (.cons ?_ (.cons ?_ (.cons ?_ (.cons ?_ (.cons ?_ (.cons ?_ (.cons ?_ (.cons ?_ (.cons ?_ (.cons ?_ (.cons ?_ (.cons ?_ (.cons ?_ (.cons ?_ (.cons ?_ (.cons ?_ (.cons ?_ (.cons ?_ (.cons ?_ (.cons ?_ .nil))))))))))))))))))))))))))))))))))))))))) ?_
  · refine Obl.plain rfl _ rfl rfl [] (by kernel_rfl) fun a W hF hC hD K hK => ?_
    have e3 : a.tmps.getD 3 undef = .pointer (some ⟨tb, 0, none⟩) := hF.1
    clear hF hD hC
    exact wp_move (.tmp 3) rfl e3 (hK _ _ rfl (Below.refl _ _))
  · refine Obl.plain rfl _ rfl rfl [] (by kernel_rfl) fun a W hF hC hD K hK => ?_
    obtain ⟨c1, c2, c3⟩ := hC
    have e7 : a.tmps.getD 7 undef = .pointer (some ⟨b7, 0, none⟩) := hF.2.1
    clear hF hD
    exact wpLd 64 (.tmp 7) rfl (c1.vb 0 _ rfl) 0 e7 (n12 A) (part_all _ (n12_len _)) (n12_len _) Try.underlying64 rfl Try.szF12 (hK _ _ rfl (Below.refl _ _))
  · refine Obl.plain rfl _ rfl rfl [] (by kernel_rfl) fun a W hF hC hD K hK => ?_
    obtain ⟨c1, c2, c3⟩ := hC
    have e8 : a.tmps.getD 8 undef = .pointer (some ⟨b8, 0, none⟩) := hF.2.2.1
    clear hF hD
    exact wpLd 64 (.tmp 8) rfl (c1.vb 1 _ rfl) 0 e8 (n12 B) (part_all _ (n12_len _)) (n12_len _) Try.underlying64 rfl Try.szF12 (hK _ _ rfl (Below.refl _ _))
  · refine Obl.plain rfl _ rfl rfl [0, 1, 2] (by kernel_rfl) fun a W hF hC hD K hK => ?_
    obtain ⟨c1, c2, c3⟩ := hC
    have e31 : a.tmps.getD 31 undef = .pointer (some ⟨tb, 0, none⟩) := hD.1
    have e32 : a.tmps.getD 32 undef = .agg (n12 A).toArray := hD.2.1
    have e33 : a.tmps.getD 33 undef = .agg (n12 B).toArray := hD.2.2.1
    clear hF hD
    exact wp_callV #[a.tmps.getD 31 undef, a.tmps.getD 32 undef, a.tmps.getD 33 undef] #[.pointer (some ⟨tb, 0, none⟩), .agg (n12 A).toArray, .agg (n12 B).toArray] (.agg (n12 (o12 P (Z12.mul N (i12 A) (i12 B)))).toArray) (by kernel_rfl) (by rw [e31, e32, e33]) (wmul12 A B c2 hA.out hB.out) (fun w' hb => hK _ _ rfl hb)
  · refine Obl.plain rfl _ rfl rfl [] (by kernel_rfl) fun a W hF hC hD K hK => ?_
    have e3 : a.tmps.getD 3 undef = .pointer (some ⟨tb, 0, none⟩) := hF.1
    clear hF hD hC
    exact wp_move (.tmp 3) rfl e3 (hK _ _ rfl (Below.refl _ _))
  · refine Obl.plain rfl _ rfl rfl [] (by kernel_rfl) fun a W hF hC hD K hK => ?_
    obtain ⟨c1, c2, c3⟩ := hC
    have e8 : a.tmps.getD 8 undef = .pointer (some ⟨b8, 0, none⟩) := hF.2.2.1
    clear hF hD
    exact wpLd 64 (.tmp 8) rfl (c1.vb 1 _ rfl) 0 e8 (n12 B) (part_all _ (n12_len _)) (n12_len _) Try.underlying64 rfl Try.szF12 (hK _ _ rfl (Below.refl _ _))
  · refine Obl.plain rfl _ rfl rfl [] (by kernel_rfl) fun a W hF hC hD K hK => ?_
    obtain ⟨c1, c2, c3⟩ := hC
    have e7 : a.tmps.getD 7 undef = .pointer (some ⟨b7, 0, none⟩) := hF.2.1
    clear hF hD
    exact wpLd 64 (.tmp 7) rfl (c1.vb 0 _ rfl) 0 e7 (n12 A) (part_all _ (n12_len _)) (n12_len _) Try.underlying64 rfl Try.szF12 (hK _ _ rfl (Below.refl _ _))
  · refine Obl.plain rfl _ rfl rfl [4, 5, 6, 3] (by kernel_rfl) fun a W hF hC hD K hK => ?_
    obtain ⟨c1, c2, c3⟩ := hC
    have e35 : a.tmps.getD 35 undef = .pointer (some ⟨tb, 0, none⟩) := hD.1
    have e36 : a.tmps.getD 36 undef = .agg (n12 B).toArray := hD.2.1
    have e37 : a.tmps.getD 37 undef = .agg (n12 A).toArray := hD.2.2.1
    clear hF hD
    exact wp_callV #[a.tmps.getD 35 undef, a.tmps.getD 36 undef, a.tmps.getD 37 undef] #[.pointer (some ⟨tb, 0, none⟩), .agg (n12 B).toArray, .agg (n12 A).toArray] (.agg (n12 (o12 P (Z12.mul N (i12 B) (i12 A)))).toArray) (by kernel_rfl) (by rw [e35, e36, e37]) (wmul12 B A c2 hB.out hA.out) (fun w' hb => hK _ _ rfl hb)
  · refine Obl.plain rfl _ rfl rfl [3, 7] (by kernel_rfl) fun a W hF hC hD K hK => ?_
    have e34 : a.tmps.getD 34 undef = .agg (n12 (o12 P (Z12.mul N (i12 A) (i12 B)))).toArray := hD.1
    have e38 : a.tmps.getD 38 undef = .agg (n12 (o12 P (Z12.mul N (i12 B) (i12 A)))).toArray := hD.2.1
    clear hF hD hC
    exact wp_neqA (xs := n12 (o12 P (Z12.mul N (i12 A) (i12 B)))) (ys := n12 (o12 P (Z12.mul N (i12 B) (i12 A)))) (.tmp 34) (.tmp 38) _ _ rfl e34 e38 Try.egF12 (b := true) ((eqF12 9995 (o12 P (Z12.mul N (i12 A) (i12 B))) (o12 P (Z12.mul N (i12 B) (i12 A)))).trans (congrArg (fun b => Result.ok b W) (q12_of (law_comm12 _ _)))) (hK _ _ rfl (Below.refl _ _))
  · refine Obl.plain rfl _ rfl rfl [8, 7] (by kernel_rfl) fun a W hF hC hD K hK => ?_
    have e39 : a.tmps.getD 39 undef = .bool false := hD.1
    clear hF hD hC
    exact wp_move (.tmp 39) rfl e39 (hK _ _ rfl (Below.refl _ _))
  · refine Obl.guarded rfl _ rfl 9 false 40 rfl rfl [9] (by kernel_rfl) (fun a W hF hC hD => hD.1) fun a W hF hC hD K hK => ?_
    have e3 : a.tmps.getD 3 undef = .pointer (some ⟨tb, 0, none⟩) := hF.1
    clear hF hD hC
    exact wp_move (.tmp 3) rfl e3 (hK _ _ rfl (Below.refl _ _))
  · refine Obl.guarded rfl _ rfl 9 false 40 rfl rfl [9] (by kernel_rfl) (fun a W hF hC hD => hD.1) fun a W hF hC hD K hK => ?_
    have e3 : a.tmps.getD 3 undef = .pointer (some ⟨tb, 0, none⟩) := hF.1
    clear hF hD hC
    exact wp_move (.tmp 3) rfl e3 (hK _ _ rfl (Below.refl _ _))
  · refine Obl.guarded rfl _ rfl 9 false 40 rfl rfl [9] (by kernel_rfl) (fun a W hF hC hD => hD.1) fun a W hF hC hD K hK => ?_
    obtain ⟨c1, c2, c3⟩ := hC
    have e7 : a.tmps.getD 7 undef = .pointer (some ⟨b7, 0, none⟩) := hF.2.1
    clear hF hD
    exact wpLd 64 (.tmp 7) rfl (c1.vb 0 _ rfl) 0 e7 (n12 A) (part_all _ (n12_len _)) (n12_len _) Try.underlying64 rfl Try.szF12 (hK _ _ rfl (Below.refl _ _))
  · refine Obl.guarded rfl _ rfl 9 false 40 rfl rfl [9] (by kernel_rfl) (fun a W hF hC hD => hD.1) fun a W hF hC hD K hK => ?_
    obtain ⟨c1, c2, c3⟩ := hC
    have e8 : a.tmps.getD 8 undef = .pointer (some ⟨b8, 0, none⟩) := hF.2.2.1
    clear hF hD
    exact wpLd 64 (.tmp 8) rfl (c1.vb 1 _ rfl) 0 e8 (n12 B) (part_all _ (n12_len _)) (n12_len _) Try.underlying64 rfl Try.szF12 (hK _ _ rfl (Below.refl _ _))
  · refine Obl.guarded rfl _ rfl 9 false 40 rfl rfl [11, 12, 13, 9, 9] (by kernel_rfl) (fun a W hF hC hD => hD.2.2.2.1) fun a W hF hC hD K hK => ?_
    obtain ⟨c1, c2, c3⟩ := hC
    have e42 : a.tmps.getD 42 undef = .pointer (some ⟨tb, 0, none⟩) := hD.1
    have e43 : a.tmps.getD 43 undef = .agg (n12 A).toArray := hD.2.1
    have e44 : a.tmps.getD 44 undef = .agg (n12 B).toArray := hD.2.2.1
    clear hF hD
    exact wp_callV #[a.tmps.getD 42 undef, a.tmps.getD 43 undef, a.tmps.getD 44 undef] #[.pointer (some ⟨tb, 0, none⟩), .agg (n12 A).toArray, .agg (n12 B).toArray] (.agg (n12 (o12 P (Z12.mul N (i12 A) (i12 B)))).toArray) (by kernel_rfl) (by rw [e42, e43, e44]) (wmul12 A B c2 hA.out hB.out) (fun w' hb => hK _ _ rfl hb)
  · refine Obl.guarded rfl _ rfl 9 false 40 rfl rfl [9] (by kernel_rfl) (fun a W hF hC hD => hD.1) fun a W hF hC hD K hK => ?_
    obtain ⟨c1, c2, c3⟩ := hC
    have e9 : a.tmps.getD 9 undef = .pointer (some ⟨b9, 0, none⟩) := hF.2.2.2.1
    clear hF hD
    exact wpLd 64 (.tmp 9) rfl (c1.vb 2 _ rfl) 0 e9 (n12 C) (part_all _ (n12_len _)) (n12_len _) Try.underlying64 rfl Try.szF12 (hK _ _ rfl (Below.refl _ _))
  · refine Obl.guarded rfl _ rfl 9 false 40 rfl rfl [10, 14, 15, 14, 9] (by kernel_rfl) (fun a W hF hC hD => hD.2.2.2.2.1) fun a W hF hC hD K hK => ?_
    obtain ⟨c1, c2, c3⟩ := hC
    have e41 : a.tmps.getD 41 undef = .pointer (some ⟨tb, 0, none⟩) := hD.1
    have e45 : a.tmps.getD 45 undef = .agg (n12 (o12 P (Z12.mul N (i12 A) (i12 B)))).toArray := hD.2.1
    have e46 : a.tmps.getD 46 undef = .agg (n12 C).toArray := hD.2.2.1
    clear hF hD
    exact wp_callV #[a.tmps.getD 41 undef, a.tmps.getD 45 undef, a.tmps.getD 46 undef] #[.pointer (some ⟨tb, 0, none⟩), .agg (n12 (o12 P (Z12.mul N (i12 A) (i12 B)))).toArray, .agg (n12 C).toArray] (.agg (n12 (o12 P (Z12.mul N (i12 (o12 P (Z12.mul N (i12 A) (i12 B)))) (i12 C)))).toArray) (by kernel_rfl) (by rw [e41, e45, e46]) (wmul12 (o12 P (Z12.mul N (i12 A) (i12 B))) C c2 (o12ok hP.out _) hC.out) (fun w' hb => hK _ _ rfl hb)
  · refine Obl.guarded rfl _ rfl 9 false 40 rfl rfl [9] (by kernel_rfl) (fun a W hF hC hD => hD.1) fun a W hF hC hD K hK => ?_
    have e3 : a.tmps.getD 3 undef = .pointer (some ⟨tb, 0, none⟩) := hF.1
    clear hF hD hC
    exact wp_move (.tmp 3) rfl e3 (hK _ _ rfl (Below.refl _ _))
  · refine Obl.guarded rfl _ rfl 9 false 40 rfl rfl [9] (by kernel_rfl) (fun a W hF hC hD => hD.1) fun a W hF hC hD K hK => ?_
    obtain ⟨c1, c2, c3⟩ := hC
    have e7 : a.tmps.getD 7 undef = .pointer (some ⟨b7, 0, none⟩) := hF.2.1
    clear hF hD
    exact wpLd 64 (.tmp 7) rfl (c1.vb 0 _ rfl) 0 e7 (n12 A) (part_all _ (n12_len _)) (n12_len _) Try.underlying64 rfl Try.szF12 (hK _ _ rfl (Below.refl _ _))
  · refine Obl.guarded rfl _ rfl 9 false 40 rfl rfl [9] (by kernel_rfl) (fun a W hF hC hD => hD.1) fun a W hF hC hD K hK => ?_
    have e3 : a.tmps.getD 3 undef = .pointer (some ⟨tb, 0, none⟩) := hF.1
    clear hF hD hC
    exact wp_move (.tmp 3) rfl e3 (hK _ _ rfl (Below.refl _ _))
  · refine Obl.guarded rfl _ rfl 9 false 40 rfl rfl [9] (by kernel_rfl) (fun a W hF hC hD => hD.1) fun a W hF hC hD K hK => ?_
    obtain ⟨c1, c2, c3⟩ := hC
    have e8 : a.tmps.getD 8 undef = .pointer (some ⟨b8, 0, none⟩) := hF.2.2.1
    clear hF hD
    exact wpLd 64 (.tmp 8) rfl (c1.vb 1 _ rfl) 0 e8 (n12 B) (part_all _ (n12_len _)) (n12_len _) Try.underlying64 rfl Try.szF12 (hK _ _ rfl (Below.refl _ _))
  · refine Obl.guarded rfl _ rfl 9 false 40 rfl rfl [9] (by kernel_rfl) (fun a W hF hC hD => hD.1) fun a W hF hC hD K hK => ?_
    obtain ⟨c1, c2, c3⟩ := hC
    have e9 : a.tmps.getD 9 undef = .pointer (some ⟨b9, 0, none⟩) := hF.2.2.2.1
    clear hF hD
    exact wpLd 64 (.tmp 9) rfl (c1.vb 2 _ rfl) 0 e9 (n12 C) (part_all _ (n12_len _)) (n12_len _) Try.underlying64 rfl Try.szF12 (hK _ _ rfl (Below.refl _ _))
  · refine Obl.guarded rfl _ rfl 9 false 40 rfl rfl [19, 20, 21, 16, 9] (by kernel_rfl) (fun a W hF hC hD => hD.2.2.2.2.1) fun a W hF hC hD K hK => ?_
    obtain ⟨c1, c2, c3⟩ := hC
    have e50 : a.tmps.getD 50 undef = .pointer (some ⟨tb, 0, none⟩) := hD.1
    have e51 : a.tmps.getD 51 undef = .agg (n12 B).toArray := hD.2.1
    have e52 : a.tmps.getD 52 undef = .agg (n12 C).toArray := hD.2.2.1
    clear hF hD
    exact wp_callV #[a.tmps.getD 50 undef, a.tmps.getD 51 undef, a.tmps.getD 52 undef] #[.pointer (some ⟨tb, 0, none⟩), .agg (n12 B).toArray, .agg (n12 C).toArray] (.agg (n12 (o12 P (Z12.mul N (i12 B) (i12 C)))).toArray) (by kernel_rfl) (by rw [e50, e51, e52]) (wmul12 B C c2 hB.out hC.out) (fun w' hb => hK _ _ rfl hb)
  · refine Obl.guarded rfl _ rfl 9 false 40 rfl rfl [17, 18, 22, 22, 9] (by kernel_rfl) (fun a W hF hC hD => hD.2.2.2.2.1) fun a W hF hC hD K hK => ?_
    obtain ⟨c1, c2, c3⟩ := hC
    have e48 : a.tmps.getD 48 undef = .pointer (some ⟨tb, 0, none⟩) := hD.1
    have e49 : a.tmps.getD 49 undef = .agg (n12 A).toArray := hD.2.1
    have e53 : a.tmps.getD 53 undef = .agg (n12 (o12 P (Z12.mul N (i12 B) (i12 C)))).toArray := hD.2.2.1
    clear hF hD
    exact wp_callV #[a.tmps.getD 48 undef, a.tmps.getD 49 undef, a.tmps.getD 53 undef] #[.pointer (some ⟨tb, 0, none⟩), .agg (n12 A).toArray, .agg (n12 (o12 P (Z12.mul N (i12 B) (i12 C)))).toArray] (.agg (n12 (o12 P (Z12.mul N (i12 A) (i12 (o12 P (Z12.mul N (i12 B) (i12 C))))))).toArray) (by kernel_rfl) (by rw [e48, e49, e53]) (wmul12 A (o12 P (Z12.mul N (i12 B) (i12 C))) c2 hA.out (o12ok hP.out _)) (fun w' hb => hK _ _ rfl hb)
  · refine Obl.guarded rfl _ rfl 9 false 40 rfl rfl [16, 23, 9] (by kernel_rfl) (fun a W hF hC hD => hD.2.2.1) fun a W hF hC hD K hK => ?_
    have e47 : a.tmps.getD 47 undef = .agg (n12 (o12 P (Z12.mul N (i12 (o12 P (Z12.mul N (i12 A) (i12 B)))) (i12 C)))).toArray := hD.1
    have e54 : a.tmps.getD 54 undef = .agg (n12 (o12 P (Z12.mul N (i12 A) (i12 (o12 P (Z12.mul N (i12 B) (i12 C))))))).toArray := hD.2.1
    clear hF hD hC
    exact wp_neqA (xs := n12 (o12 P (Z12.mul N (i12 (o12 P (Z12.mul N (i12 A) (i12 B)))) (i12 C)))) (ys := n12 (o12 P (Z12.mul N (i12 A) (i12 (o12 P (Z12.mul N (i12 B) (i12 C))))))) (.tmp 47) (.tmp 54) _ _ rfl e47 e54 Try.egF12 (b := true) ((eqF12 9995 (o12 P (Z12.mul N (i12 (o12 P (Z12.mul N (i12 A) (i12 B)))) (i12 C))) (o12 P (Z12.mul N (i12 A) (i12 (o12 P (Z12.mul N (i12 B) (i12 C))))))).trans (congrArg (fun b => Result.ok b W) (q12_of (law_assoc hP.out.1 _ _ _)))) (hK _ _ rfl (Below.refl _ _))
  · refine Obl.plain rfl _ rfl rfl [9, 24] (by kernel_rfl) fun a W hF hC hD K hK => ?_
    have e40 : a.tmps.getD 40 undef = .bool false := hD.1
    have e55 : a.tmps.getD 55 undef = .bool false := hD.2.1
    clear hF hD hC
    exact wp_pick (.tmp 40) (.const (.bool true)) (.tmp 55) rfl (b := false) e40 e55 (hK _ _ rfl (Below.refl _ _))
  · refine Obl.plain rfl _ rfl rfl [25, 23] (by kernel_rfl) fun a W hF hC hD K hK => ?_
    have e56 : a.tmps.getD 56 undef = .bool false := hD.1
    clear hF hD hC
    exact wp_move (.tmp 56) rfl e56 (hK _ _ rfl (Below.refl _ _))
  · refine Obl.guarded rfl _ rfl 26 false 57 rfl rfl [26] (by kernel_rfl) (fun a W hF hC hD => hD.1) fun a W hF hC hD K hK => ?_
    have e3 : a.tmps.getD 3 undef = .pointer (some ⟨tb, 0, none⟩) := hF.1
    clear hF hD hC
    exact wp_move (.tmp 3) rfl e3 (hK _ _ rfl (Below.refl _ _))
  · refine Obl.guarded rfl _ rfl 26 false 57 rfl rfl [26] (by kernel_rfl) (fun a W hF hC hD => hD.1) fun a W hF hC hD K hK => ?_
    have e7 : a.tmps.getD 7 undef = .pointer (some ⟨b7, 0, none⟩) := hF.2.1
    clear hF hD hC
    exact wp_idx (.tmp 7) (.const (.int .i64 0)) rfl e7 0 rfl Try.underlying64 Try.szF6 (by decide) (hK _ _ rfl (Below.refl _ _))
  · refine Obl.guarded rfl _ rfl 26 false 57 rfl rfl [28, 26] (by kernel_rfl) (fun a W hF hC hD => hD.2.1) fun a W hF hC hD K hK => ?_
    obtain ⟨c1, c2, c3⟩ := hC
    have e59 : a.tmps.getD 59 undef = .pointer (some ⟨b7, 0, none⟩) := hD.1
    clear hF hD
    exact wpLd 62 (.tmp 59) rfl (c1.vb 0 _ rfl) 0 e59 (n6 A.a) (part0 _ _ (n6_len _)) (n6_len _) Try.underlying62 rfl Try.szF6 (hK _ _ rfl (Below.refl _ _))
  · refine Obl.guarded rfl _ rfl 26 false 57 rfl rfl [26] (by kernel_rfl) (fun a W hF hC hD => hD.1) fun a W hF hC hD K hK => ?_
    have e8 : a.tmps.getD 8 undef = .pointer (some ⟨b8, 0, none⟩) := hF.2.2.1
    clear hF hD hC
    exact wp_idx (.tmp 8) (.const (.int .i64 0)) rfl e8 0 rfl Try.underlying64 Try.szF6 (by decide) (hK _ _ rfl (Below.refl _ _))
  · refine Obl.guarded rfl _ rfl 26 false 57 rfl rfl [30, 26] (by kernel_rfl) (fun a W hF hC hD => hD.2.1) fun a W hF hC hD K hK => ?_
    obtain ⟨c1, c2, c3⟩ := hC
    have e61 : a.tmps.getD 61 undef = .pointer (some ⟨b8, 0, none⟩) := hD.1
    clear hF hD
    exact wpLd 62 (.tmp 61) rfl (c1.vb 1 _ rfl) 0 e61 (n6 B.a) (part0 _ _ (n6_len _)) (n6_len _) Try.underlying62 rfl Try.szF6 (hK _ _ rfl (Below.refl _ _))
  · refine Obl.guarded rfl _ rfl 26 false 57 rfl rfl [27, 29, 31, 26, 26] (by kernel_rfl) (fun a W hF hC hD => hD.2.2.2.1) fun a W hF hC hD K hK => ?_
    obtain ⟨c1, c2, c3⟩ := hC
    have e58 : a.tmps.getD 58 undef = .pointer (some ⟨tb, 0, none⟩) := hD.1
    have e60 : a.tmps.getD 60 undef = .agg (n6 A.a).toArray := hD.2.1
    have e62 : a.tmps.getD 62 undef = .agg (n6 B.a).toArray := hD.2.2.1
    clear hF hD
    exact wp_callV #[a.tmps.getD 58 undef, a.tmps.getD 60 undef, a.tmps.getD 62 undef] #[.pointer (some ⟨tb, 0, none⟩), .agg (n6 A.a).toArray, .agg (n6 B.a).toArray] (.agg (n6 (o6 P (Z6.mul N (i6 A.a) (i6 B.a)))).toArray) (by kernel_rfl) (by rw [e58, e60, e62]) (wmul6 A.a B.a c2 hA.out.1 hB.out.1) (fun w' hb => hK _ _ rfl hb)
  · refine Obl.guarded rfl _ rfl 26 false 57 rfl rfl [26] (by kernel_rfl) (fun a W hF hC hD => hD.1) fun a W hF hC hD K hK => ?_
    have e3 : a.tmps.getD 3 undef = .pointer (some ⟨tb, 0, none⟩) := hF.1
    clear hF hD hC
    exact wp_move (.tmp 3) rfl e3 (hK _ _ rfl (Below.refl _ _))
  · refine Obl.guarded rfl _ rfl 26 false 57 rfl rfl [26] (by kernel_rfl) (fun a W hF hC hD => hD.1) fun a W hF hC hD K hK => ?_
    have e8 : a.tmps.getD 8 undef = .pointer (some ⟨b8, 0, none⟩) := hF.2.2.1
    clear hF hD hC
    exact wp_idx (.tmp 8) (.const (.int .i64 0)) rfl e8 0 rfl Try.underlying64 Try.szF6 (by decide) (hK _ _ rfl (Below.refl _ _))
  · refine Obl.guarded rfl _ rfl 26 false 57 rfl rfl [34, 26] (by kernel_rfl) (fun a W hF hC hD => hD.2.1) fun a W hF hC hD K hK => ?_
    obtain ⟨c1, c2, c3⟩ := hC
    have e65 : a.tmps.getD 65 undef = .pointer (some ⟨b8, 0, none⟩) := hD.1
    clear hF hD
    exact wpLd 62 (.tmp 65) rfl (c1.vb 1 _ rfl) 0 e65 (n6 B.a) (part0 _ _ (n6_len _)) (n6_len _) Try.underlying62 rfl Try.szF6 (hK _ _ rfl (Below.refl _ _))
  · refine Obl.guarded rfl _ rfl 26 false 57 rfl rfl [26] (by kernel_rfl) (fun a W hF hC hD => hD.1) fun a W hF hC hD K hK => ?_
    have e7 : a.tmps.getD 7 undef = .pointer (some ⟨b7, 0, none⟩) := hF.2.1
    clear hF hD hC
    exact wp_idx (.tmp 7) (.const (.int .i64 0)) rfl e7 0 rfl Try.underlying64 Try.szF6 (by decide) (hK _ _ rfl (Below.refl _ _))
  · refine Obl.guarded rfl _ rfl 26 false 57 rfl rfl [36, 26] (by kernel_rfl) (fun a W hF hC hD => hD.2.1) fun a W hF hC hD K hK => ?_
    obtain ⟨c1, c2, c3⟩ := hC
    have e67 : a.tmps.getD 67 undef = .pointer (some ⟨b7, 0, none⟩) := hD.1
    clear hF hD
    exact wpLd 62 (.tmp 67) rfl (c1.vb 0 _ rfl) 0 e67 (n6 A.a) (part0 _ _ (n6_len _)) (n6_len _) Try.underlying62 rfl Try.szF6 (hK _ _ rfl (Below.refl _ _))
  · refine Obl.guarded rfl _ rfl 26 false 57 rfl rfl [33, 35, 37, 32, 26] (by kernel_rfl) (fun a W hF hC hD => hD.2.2.2.2.1) fun a W hF hC hD K hK => ?_
    obtain ⟨c1, c2, c3⟩ := hC
    have e64 : a.tmps.getD 64 undef = .pointer (some ⟨tb, 0, none⟩) := hD.1
    have e66 : a.tmps.getD 66 undef = .agg (n6 B.a).toArray := hD.2.1
    have e68 : a.tmps.getD 68 undef = .agg (n6 A.a).toArray := hD.2.2.1
    clear hF hD
    exact wp_callV #[a.tmps.getD 64 undef, a.tmps.getD 66 undef, a.tmps.getD 68 undef] #[.pointer (some ⟨tb, 0, none⟩), .agg (n6 B.a).toArray, .agg (n6 A.a).toArray] (.agg (n6 (o6 P (Z6.mul N (i6 B.a) (i6 A.a)))).toArray) (by kernel_rfl) (by rw [e64, e66, e68]) (wmul6 B.a A.a c2 hB.out.1 hA.out.1) (fun w' hb => hK _ _ rfl hb)
  · refine Obl.guarded rfl _ rfl 26 false 57 rfl rfl [32, 38, 26] (by kernel_rfl) (fun a W hF hC hD => hD.2.2.1) fun a W hF hC hD K hK => ?_
    have e63 : a.tmps.getD 63 undef = .agg (n6 (o6 P (Z6.mul N (i6 A.a) (i6 B.a)))).toArray := hD.1
    have e69 : a.tmps.getD 69 undef = .agg (n6 (o6 P (Z6.mul N (i6 B.a) (i6 A.a)))).toArray := hD.2.1
    clear hF hD hC
    exact wp_neqA (xs := n6 (o6 P (Z6.mul N (i6 A.a) (i6 B.a)))) (ys := n6 (o6 P (Z6.mul N (i6 B.a) (i6 A.a)))) (.tmp 63) (.tmp 69) _ _ rfl e63 e69 Try.egF6 (b := true) ((eqF6 9996 (o6 P (Z6.mul N (i6 A.a) (i6 B.a))) (o6 P (Z6.mul N (i6 B.a) (i6 A.a)))).trans (congrArg (fun b => Result.ok b W) (q6_of (law_comm6 _ _)))) (hK _ _ rfl (Below.refl _ _))
  · refine Obl.plain rfl _ rfl rfl [26, 39] (by kernel_rfl) fun a W hF hC hD K hK => ?_
    have e57 : a.tmps.getD 57 undef = .bool false := hD.1
    have e70 : a.tmps.getD 70 undef = .bool false := hD.2.1
    clear hF hD hC
    exact wp_pick (.tmp 57) (.const (.bool true)) (.tmp 70) rfl (b := false) e57 e70 (hK _ _ rfl (Below.refl _ _))
  rintro w2 hB hC _ rfl _ rfl _ rfl _ rfl _ rfl _ rfl _ rfl _ rfl _ rfl _ rfl _ rfl _ rfl _ rfl _ rfl _ rfl _ rfl _ rfl _ rfl _ rfl _ rfl _ rfl _ rfl _ rfl _ rfl _ rfl _ rfl _ rfl _ rfl _ rfl _ rfl _ rfl _ rfl _ rfl _ rfl _ rfl _ rfl _ rfl _ rfl _ rfl _ rfl _ rfl
  change Below _ _ _ at hB
  change wpList _ _ _ _ _ _
  simp only [List.drop_succ_cons, List.drop_zero, Act.put, List.setIfInBounds_toArray, List.set_cons_zero, List.set_cons_succ]
  have hS2 := hide (hS1.out.next hB)
  clear hB hC hS1
  go_upto_region 7 with fail
  refine region_sq 6 172 [fun v _ => v = .pointer (some ⟨tb, 0, none⟩), fun v _ => v = .pointer (some ⟨b7, 0, none⟩), fun v _ => v = .agg (n6 A.a).toArray, fun v _ => v = .pointer (some ⟨b8, 0, none⟩), fun v _ => v = .agg (n6 B.a).toArray, fun v _ => v = .agg (n6 (o6 P (Z6.mul N (i6 A.a) (i6 B.a)))).toArray]
    [(3, .pointer (some ⟨tb, 0, none⟩)), (7, .pointer (some ⟨b7, 0, none⟩)), (8, .pointer (some ⟨b8, 0, none⟩))] (fun w' => St w0 w' [⟨b7, 64, n12 A⟩, ⟨b8, 64, n12 B⟩, ⟨b9, 64, n12 C⟩] ∧ TW w' tb bf bt bm P n size N fr ∧ VB w' b1 66 (ask7 k A B C E T)) (fun w' => True) 999 none trivial (by kernel_rfl) rfl rfl
    (.cons (Fact.eq _) rfl (.cons (Fact.eq _) rfl (.cons (Fact.eq _) rfl (.cons (Fact.eq _) rfl (.cons (Fact.eq _) rfl (.cons (Fact.eq _) rfl (.nil _))))))) (fun w' h => ⟨hS2.out.next h, hT.out.next (hS2.out.next h).bl, hV.out.next (hS2.out.next h).bl⟩) (fun w' h => trivial) (by kernel_rfl) (by exact ⟨rfl, rfl, rfl, trivial⟩) (.cons ?_ (.cons ?_ (.cons ?_ (.cons ?_ (.cons ?_ (.cons ?_ .nil)))))) ?_
  · refine Obl.plain rfl _ rfl rfl [] (by kernel_rfl) fun a W hF hC hD K hK => ?_
    have e3 : a.tmps.getD 3 undef = .pointer (some ⟨tb, 0, none⟩) := hF.1
    clear hF hD hC
    exact wp_move (.tmp 3) rfl e3 (hK _ _ rfl (Below.refl _ _))
  · refine Obl.plain rfl _ rfl rfl [] (by kernel_rfl) fun a W hF hC hD K hK => ?_
    have e7 : a.tmps.getD 7 undef = .pointer (some ⟨b7, 0, none⟩) := hF.2.1
    clear hF hD hC
    exact wp_idx (.tmp 7) (.const (.int .i64 0)) rfl e7 0 rfl Try.underlying64 Try.szF6 (by decide) (hK _ _ rfl (Below.refl _ _))
  · refine Obl.plain rfl _ rfl rfl [1] (by kernel_rfl) fun a W hF hC hD K hK => ?_
    obtain ⟨c1, c2, c3⟩ := hC
    have e73 : a.tmps.getD 73 undef = .pointer (some ⟨b7, 0, none⟩) := hD.1
    clear hF hD
    exact wpLd 62 (.tmp 73) rfl (c1.vb 0 _ rfl) 0 e73 (n6 A.a) (part0 _ _ (n6_len _)) (n6_len _) Try.underlying62 rfl Try.szF6 (hK _ _ rfl (Below.refl _ _))
  · refine Obl.plain rfl _ rfl rfl [] (by kernel_rfl) fun a W hF hC hD K hK => ?_
    have e8 : a.tmps.getD 8 undef = .pointer (some ⟨b8, 0, none⟩) := hF.2.2.1
    clear hF hD hC
    exact wp_idx (.tmp 8) (.const (.int .i64 0)) rfl e8 0 rfl Try.underlying64 Try.szF6 (by decide) (hK _ _ rfl (Below.refl _ _))
  · refine Obl.plain rfl _ rfl rfl [3] (by kernel_rfl) fun a W hF hC hD K hK => ?_
    obtain ⟨c1, c2, c3⟩ := hC
    have e75 : a.tmps.getD 75 undef = .pointer (some ⟨b8, 0, none⟩) := hD.1
    clear hF hD
    exact wpLd 62 (.tmp 75) rfl (c1.vb 1 _ rfl) 0 e75 (n6 B.a) (part0 _ _ (n6_len _)) (n6_len _) Try.underlying62 rfl Try.szF6 (hK _ _ rfl (Below.refl _ _))
  · refine Obl.plain rfl _ rfl rfl [0, 2, 4] (by kernel_rfl) fun a W hF hC hD K hK => ?_
    obtain ⟨c1, c2, c3⟩ := hC
    have e72 : a.tmps.getD 72 undef = .pointer (some ⟨tb, 0, none⟩) := hD.1
    have e74 : a.tmps.getD 74 undef = .agg (n6 A.a).toArray := hD.2.1
    have e76 : a.tmps.getD 76 undef = .agg (n6 B.a).toArray := hD.2.2.1
    clear hF hD
    exact wp_callV #[a.tmps.getD 72 undef, a.tmps.getD 74 undef, a.tmps.getD 76 undef] #[.pointer (some ⟨tb, 0, none⟩), .agg (n6 A.a).toArray, .agg (n6 B.a).toArray] (.agg (n6 (o6 P (Z6.mul N (i6 A.a) (i6 B.a)))).toArray) (by kernel_rfl) (by rw [e72, e74, e76]) (wmul6 A.a B.a c2 hA.out.1 hB.out.1) (fun w' hb => hK _ _ rfl hb)
  rintro w3 hB hC _ rfl _ rfl _ rfl _ rfl _ rfl _ rfl
  change Below _ _ _ at hB
  change wpList _ _ _ _ _ _
  simp only [List.drop_succ_cons, List.drop_zero, Act.put, List.setIfInBounds_toArray, List.set_cons_zero, List.set_cons_succ]
  have hS3 := hide (hS2.out.next hB)
  clear hB hC hS2
  go_upto_region 8 with (first
    | ((with_reducible refine allocS (o := ⟨some 10, _, _, _, _, _⟩) ?_ 62 ?_ hS3.out (z0 36) Try.zrF6 ?_); rfl; rfl; intro wA b10 hS; have hA : Hid (St w0 wA [⟨b7, 64, n12 A⟩, ⟨b8, 64, n12 B⟩, ⟨b9, 64, n12 C⟩, ⟨b10, 62, z0 36⟩]) := hide hS; clear hS)
    | ((with_reducible refine storeWS (n := 36) (o := ⟨none, _, _, _, _, _⟩) ?_ 62 (.tmp 10) (.tmp 77) ?_ hA.out 3 (c := ⟨b10, 62, z0 36⟩) ?_ ?_ (n6 (o6 P (Z6.mul N (i6 A.a) (i6 B.a)))) ?_ ?_ ?_ ?_ Try.szF6 ?_); rfl; rfl; rfl; rfl; rfl; rfl; rfl; rfl; intro wB hS hO; clear hO; have hS4 : Hid (St w0 wB [⟨b7, 64, n12 A⟩, ⟨b8, 64, n12 B⟩, ⟨b9, 64, n12 C⟩, ⟨b10, 62, n6 (o6 P (Z6.mul N (i6 A.a) (i6 B.a)))⟩]) := hide hS; clear hS))
  clear hA hS3
  go_upto_region 8 with fail
  refine region_sq 8 172 [fun v _ => v = .pointer (some ⟨tb, 0, none⟩), fun v _ => v = .pointer (some ⟨b7, 0, none⟩), fun v _ => v = .pointer (some ⟨b7, 0, none⟩), fun v _ => v = .agg (n2 A.a.a).toArray, fun v _ => v = .pointer (some ⟨b8, 0, none⟩), fun v _ => v = .pointer (some ⟨b8, 0, none⟩), fun v _ => v = .agg (n2 B.a.a).toArray, fun v _ => v = .agg (n2 (o2 P (Z2.mul (i2 A.a.a) (i2 B.a.a)))).toArray]
    [(3, .pointer (some ⟨tb, 0, none⟩)), (7, .pointer (some ⟨b7, 0, none⟩)), (8, .pointer (some ⟨b8, 0, none⟩))] (fun w' => St w0 w' [⟨b7, 64, n12 A⟩, ⟨b8, 64, n12 B⟩, ⟨b9, 64, n12 C⟩, ⟨b10, 62, n6 (o6 P (Z6.mul N (i6 A.a) (i6 B.a)))⟩] ∧ TW w' tb bf bt bm P n size N fr ∧ VB w' b1 66 (ask7 k A B C E T)) (fun w' => True) 999 none trivial (by kernel_rfl) rfl rfl
    (.cons (Fact.eq _) rfl (.cons (Fact.eq _) rfl (.cons (Fact.eq _) rfl (.cons (Fact.eq _) rfl (.cons (Fact.eq _) rfl (.cons (Fact.eq _) rfl (.cons (Fact.eq _) rfl (.cons (Fact.eq _) rfl (.nil _))))))))) (fun w' h => ⟨hS4.out.next h, hT.out.next (hS4.out.next h).bl, hV.out.next (hS4.out.next h).bl⟩) (fun w' h => trivial) (by kernel_rfl) (by exact ⟨rfl, rfl, rfl, trivial⟩) (.cons ?_ (.cons ?_ (.cons ?_ (.cons ?_ (.cons ?_ (.cons ?_ (.cons ?_ (.cons ?_ .nil)))))))) ?_
  · refine Obl.plain rfl _ rfl rfl [] (by kernel_rfl) fun a W hF hC hD K hK => ?_
    have e3 : a.tmps.getD 3 undef = .pointer (some ⟨tb, 0, none⟩) := hF.1
    clear hF hD hC
    exact wp_move (.tmp 3) rfl e3 (hK _ _ rfl (Below.refl _ _))
  · refine Obl.plain rfl _ rfl rfl [] (by kernel_rfl) fun a W hF hC hD K hK => ?_
    have e7 : a.tmps.getD 7 undef = .pointer (some ⟨b7, 0, none⟩) := hF.2.1
    clear hF hD hC
    exact wp_idx (.tmp 7) (.const (.int .i64 0)) rfl e7 0 rfl Try.underlying64 Try.szF6 (by decide) (hK _ _ rfl (Below.refl _ _))
  · refine Obl.plain rfl _ rfl rfl [1] (by kernel_rfl) fun a W hF hC hD K hK => ?_
    have e79 : a.tmps.getD 79 undef = .pointer (some ⟨b7, 0, none⟩) := hD.1
    clear hF hD hC
    exact wp_idx (.tmp 79) (.const (.int .i64 0)) rfl e79 0 rfl Try.underlying62 Try.szF2' (by decide) (hK _ _ rfl (Below.refl _ _))
  · refine Obl.plain rfl _ rfl rfl [2] (by kernel_rfl) fun a W hF hC hD K hK => ?_
    obtain ⟨c1, c2, c3⟩ := hC
    have e80 : a.tmps.getD 80 undef = .pointer (some ⟨b7, 0, none⟩) := hD.1
    clear hF hD
    exact wpLd 60 (.tmp 80) rfl (c1.vb 0 _ rfl) 0 e80 (n2 A.a.a) (by rfl) (n2_len _) Try.underlying60 rfl Try.szF2' (hK _ _ rfl (Below.refl _ _))
  · refine Obl.plain rfl _ rfl rfl [] (by kernel_rfl) fun a W hF hC hD K hK => ?_
    have e8 : a.tmps.getD 8 undef = .pointer (some ⟨b8, 0, none⟩) := hF.2.2.1
    clear hF hD hC
    exact wp_idx (.tmp 8) (.const (.int .i64 0)) rfl e8 0 rfl Try.underlying64 Try.szF6 (by decide) (hK _ _ rfl (Below.refl _ _))
  · refine Obl.plain rfl _ rfl rfl [4] (by kernel_rfl) fun a W hF hC hD K hK => ?_
    have e82 : a.tmps.getD 82 undef = .pointer (some ⟨b8, 0, none⟩) := hD.1
    clear hF hD hC
    exact wp_idx (.tmp 82) (.const (.int .i64 0)) rfl e82 0 rfl Try.underlying62 Try.szF2' (by decide) (hK _ _ rfl (Below.refl _ _))
  · refine Obl.plain rfl _ rfl rfl [5] (by kernel_rfl) fun a W hF hC hD K hK => ?_
    obtain ⟨c1, c2, c3⟩ := hC
    have e83 : a.tmps.getD 83 undef = .pointer (some ⟨b8, 0, none⟩) := hD.1
    clear hF hD
    exact wpLd 60 (.tmp 83) rfl (c1.vb 1 _ rfl) 0 e83 (n2 B.a.a) (by rfl) (n2_len _) Try.underlying60 rfl Try.szF2' (hK _ _ rfl (Below.refl _ _))
  · refine Obl.plain rfl _ rfl rfl [0, 3, 6] (by kernel_rfl) fun a W hF hC hD K hK => ?_
    obtain ⟨c1, c2, c3⟩ := hC
    have e78 : a.tmps.getD 78 undef = .pointer (some ⟨tb, 0, none⟩) := hD.1
    have e81 : a.tmps.getD 81 undef = .agg (n2 A.a.a).toArray := hD.2.1
    have e84 : a.tmps.getD 84 undef = .agg (n2 B.a.a).toArray := hD.2.2.1
    clear hF hD
    exact wp_callV #[a.tmps.getD 78 undef, a.tmps.getD 81 undef, a.tmps.getD 84 undef] #[.pointer (some ⟨tb, 0, none⟩), .agg (n2 A.a.a).toArray, .agg (n2 B.a.a).toArray] (.agg (n2 (o2 P (Z2.mul (i2 A.a.a) (i2 B.a.a)))).toArray) (by kernel_rfl) (by rw [e78, e81, e84]) (wmul2 A.a.a B.a.a c2 hA.out.1.1 hB.out.1.1) (fun w' hb => hK _ _ rfl hb)
  rintro w5 hB hC _ rfl _ rfl _ rfl _ rfl _ rfl _ rfl _ rfl _ rfl
  change Below _ _ _ at hB
  change wpList _ _ _ _ _ _
  simp only [List.drop_succ_cons, List.drop_zero, Act.put, List.setIfInBounds_toArray, List.set_cons_zero, List.set_cons_succ]
  have hS5 := hide (hS4.out.next hB)
  clear hB hC hS4
  go_upto_region 9 with (first
    | ((with_reducible refine allocS (o := ⟨some 11, _, _, _, _, _⟩) ?_ 60 ?_ hS5.out (z0 12) Try.zrF2' ?_); rfl; rfl; intro wA b11 hS; have hA : Hid (St w0 wA [⟨b7, 64, n12 A⟩, ⟨b8, 64, n12 B⟩, ⟨b9, 64, n12 C⟩, ⟨b10, 62, n6 (o6 P (Z6.mul N (i6 A.a) (i6 B.a)))⟩, ⟨b11, 60, z0 12⟩]) := hide hS; clear hS)
    | ((with_reducible refine storeWS (n := 12) (o := ⟨none, _, _, _, _, _⟩) ?_ 60 (.tmp 11) (.tmp 85) ?_ hA.out 4 (c := ⟨b11, 60, z0 12⟩) ?_ ?_ (n2 (o2 P (Z2.mul (i2 A.a.a) (i2 B.a.a)))) ?_ ?_ ?_ ?_ Try.szF2' ?_); rfl; rfl; rfl; rfl; rfl; rfl; rfl; rfl; intro wB hS hO; clear hO; have hS6 : Hid (St w0 wB [⟨b7, 64, n12 A⟩, ⟨b8, 64, n12 B⟩, ⟨b9, 64, n12 C⟩, ⟨b10, 62, n6 (o6 P (Z6.mul N (i6 A.a) (i6 B.a)))⟩, ⟨b11, 60, n2 (o2 P (Z2.mul (i2 A.a.a) (i2 B.a.a)))⟩]) := hide hS; clear hS))
  clear hA hS5
  go_upto_region 9 with fail
  refine region_do 26 172 [fun v _ => v = .pointer (some ⟨tb, 0, none⟩), fun v _ => v = .pointer (some ⟨b7, 0, none⟩), fun v _ => v = .agg (n6 A.a).toArray, fun v _ => v = .agg (n12 ((⟨A.a, N6.zero⟩ : N12))).toArray, fun v _ => v = .pointer (some ⟨b8, 0, none⟩), fun v _ => v = .agg (n6 B.a).toArray, fun v _ => v = .agg (n12 ((⟨B.a, N6.zero⟩ : N12))).toArray, fun v _ => v = .agg (n12 (o12 P (Z12.mul N (i12 ((⟨A.a, N6.zero⟩ : N12))) (i12 ((⟨B.a, N6.zero⟩ : N12)))))).toArray, fun v _ => v = .agg (n6 (o6 P (Z6.mul N (i6 A.a) (i6 B.a)))).toArray, fun v _ => v = .agg (n12 ((⟨o6 P (Z6.mul N (i6 A.a) (i6 B.a)), N6.zero⟩ : N12))).toArray, fun v _ => v = .bool false, fun v _ => v = .bool false, fun v _ => v = .pointer (some ⟨tb, 0, none⟩), fun v _ => v = .pointer (some ⟨b7, 0, none⟩), fun v _ => v = .pointer (some ⟨b7, 0, none⟩), fun v _ => v = .agg (n2 A.a.a).toArray, fun v _ => v = .agg (n6 ((⟨A.a.a, N2.zero, N2.zero⟩ : N6))).toArray, fun v _ => v = .pointer (some ⟨b8, 0, none⟩), fun v _ => v = .pointer (some ⟨b8, 0, none⟩), fun v _ => v = .agg (n2 B.a.a).toArray, fun v _ => v = .agg (n6 ((⟨B.a.a, N2.zero, N2.zero⟩ : N6))).toArray, fun v _ => v = .agg (n6 (o6 P (Z6.mul N (i6 ((⟨A.a.a, N2.zero, N2.zero⟩ : N6))) (i6 ((⟨B.a.a, N2.zero, N2.zero⟩ : N6)))))).toArray, fun v _ => v = .agg (n2 (o2 P (Z2.mul (i2 A.a.a) (i2 B.a.a)))).toArray, fun v _ => v = .agg (n6 ((⟨o2 P (Z2.mul (i2 A.a.a) (i2 B.a.a)), N2.zero, N2.zero⟩ : N6))).toArray, fun v _ => v = .bool false, fun v _ => v = .bool false]
    [(3, .pointer (some ⟨tb, 0, none⟩)), (7, .pointer (some ⟨b7, 0, none⟩)), (8, .pointer (some ⟨b8, 0, none⟩)), (10, .pointer (some ⟨b10, 0, none⟩)), (11, .pointer (some ⟨b11, 0, none⟩))] (fun w' => St w0 w' [⟨b7, 64, n12 A⟩, ⟨b8, 64, n12 B⟩, ⟨b9, 64, n12 C⟩, ⟨b10, 62, n6 (o6 P (Z6.mul N (i6 A.a) (i6 B.a)))⟩, ⟨b11, 60, n2 (o2 P (Z2.mul (i2 A.a.a) (i2 B.a.a)))⟩] ∧ TW w' tb bf bt bm P n size N fr ∧ VB w' b1 66 (ask7 k A B C E T)) (fun w' => True) 999 none (by kernel_rfl) (by kernel_rfl) rfl rfl
    (.cons (Fact.eq _) rfl (.cons (Fact.eq _) rfl (.cons (Fact.eq _) rfl (.cons (Fact.eq _) rfl (.cons (Fact.eq _) rfl (.cons (Fact.eq _) rfl (.cons (Fact.eq _) rfl (.cons (Fact.eq _) rfl (.cons (Fact.eq _) rfl (.cons (Fact.eq _) rfl (.cons (Fact.eq _) rfl (.cons (Fact.eq _) rfl (.cons (Fact.eq _) rfl (.cons (Fact.eq _) rfl (.cons (Fact.eq _) rfl (.cons (Fact.eq _) rfl (.cons (Fact.eq _) rfl (.cons (Fact.eq _) rfl (.cons (Fact.eq _) rfl (.cons (Fact.eq _) rfl (.cons (Fact.eq _) rfl (.cons (Fact.eq _) rfl (.cons (Fact.eq _) rfl (.cons (Fact.eq _) rfl (.cons (Fact.eq _) rfl (.cons (Fact.eq _) rfl (.nil _))))))))))))))))))))))))))) (fun w' h => ⟨hS6.out.next h, hT.out.next (hS6.out.next h).bl, hV.out.next (hS6.out.next h).bl⟩) (fun w' h => trivial) (by kernel_rfl) (by exact ⟨rfl, rfl, rfl, rfl, rfl, trivial⟩) (.cons ?_ (.cons ?_ (.cons ?_ (.cons ?_ (.cons ?_ (.cons ?_ (.cons ?_ (.cons ?_ (.cons ?_ (.cons ?_ (.cons ?_ (.cons ?_ (.cons ?_ (.cons ?_ (.cons ?_ (.cons ?_ (.cons ?_ (.cons ?_ (.cons ?_ (.cons ?_ (.cons ?_ (.cons ?_ (.cons ?_ (.cons ?_ (.cons ?_ (.cons ?_ .nil)))))))))))))))))))))))))) ?_
  · refine Obl.plain rfl _ rfl rfl [] (by kernel_rfl) fun a W hF hC hD K hK => ?_
    have e3 : a.tmps.getD 3 undef = .pointer (some ⟨tb, 0, none⟩) := hF.1
    clear hF hD hC
    exact wp_move (.tmp 3) rfl e3 (hK _ _ rfl (Below.refl _ _))
  · refine Obl.plain rfl _ rfl rfl [] (by kernel_rfl) fun a W hF hC hD K hK => ?_
    have e7 : a.tmps.getD 7 undef = .pointer (some ⟨b7, 0, none⟩) := hF.2.1
    clear hF hD hC
    exact wp_idx (.tmp 7) (.const (.int .i64 0)) rfl e7 0 rfl Try.underlying64 Try.szF6 (by decide) (hK _ _ rfl (Below.refl _ _))
  · refine Obl.plain rfl _ rfl rfl [1] (by kernel_rfl) fun a W hF hC hD K hK => ?_
    obtain ⟨c1, c2, c3⟩ := hC
    have e87 : a.tmps.getD 87 undef = .pointer (some ⟨b7, 0, none⟩) := hD.1
    clear hF hD
    exact wpLd 62 (.tmp 87) rfl (c1.vb 0 _ rfl) 0 e87 (n6 A.a) (part0 _ _ (n6_len _)) (n6_len _) Try.underlying62 rfl Try.szF6 (hK _ _ rfl (Below.refl _ _))
  · refine Obl.plain rfl _ rfl rfl [2] (by kernel_rfl) fun a W hF hC hD K hK => ?_
    have e88 : a.tmps.getD 88 undef = .agg (n6 A.a).toArray := hD.1
    clear hF hD hC
    exact wp_bld1 (.tmp 88) rfl e88 Try.underlying64 Try.szF6 Try.zrF12 (n6_len _) (by decide) (hK _ _ (pad_n12 A.a) (Below.refl _ _))
  · refine Obl.plain rfl _ rfl rfl [] (by kernel_rfl) fun a W hF hC hD K hK => ?_
    have e8 : a.tmps.getD 8 undef = .pointer (some ⟨b8, 0, none⟩) := hF.2.2.1
    clear hF hD hC
    exact wp_idx (.tmp 8) (.const (.int .i64 0)) rfl e8 0 rfl Try.underlying64 Try.szF6 (by decide) (hK _ _ rfl (Below.refl _ _))
  · refine Obl.plain rfl _ rfl rfl [4] (by kernel_rfl) fun a W hF hC hD K hK => ?_
    obtain ⟨c1, c2, c3⟩ := hC
    have e90 : a.tmps.getD 90 undef = .pointer (some ⟨b8, 0, none⟩) := hD.1
    clear hF hD
    exact wpLd 62 (.tmp 90) rfl (c1.vb 1 _ rfl) 0 e90 (n6 B.a) (part0 _ _ (n6_len _)) (n6_len _) Try.underlying62 rfl Try.szF6 (hK _ _ rfl (Below.refl _ _))
  · refine Obl.plain rfl _ rfl rfl [5] (by kernel_rfl) fun a W hF hC hD K hK => ?_
    have e91 : a.tmps.getD 91 undef = .agg (n6 B.a).toArray := hD.1
    clear hF hD hC
    exact wp_bld1 (.tmp 91) rfl e91 Try.underlying64 Try.szF6 Try.zrF12 (n6_len _) (by decide) (hK _ _ (pad_n12 B.a) (Below.refl _ _))
  · refine Obl.plain rfl _ rfl rfl [0, 3, 6] (by kernel_rfl) fun a W hF hC hD K hK => ?_
    obtain ⟨c1, c2, c3⟩ := hC
    have e86 : a.tmps.getD 86 undef = .pointer (some ⟨tb, 0, none⟩) := hD.1
    have e89 : a.tmps.getD 89 undef = .agg (n12 ((⟨A.a, N6.zero⟩ : N12))).toArray := hD.2.1
    have e92 : a.tmps.getD 92 undef = .agg (n12 ((⟨B.a, N6.zero⟩ : N12))).toArray := hD.2.2.1
    clear hF hD
    exact wp_callV #[a.tmps.getD 86 undef, a.tmps.getD 89 undef, a.tmps.getD 92 undef] #[.pointer (some ⟨tb, 0, none⟩), .agg (n12 ((⟨A.a, N6.zero⟩ : N12))).toArray, .agg (n12 ((⟨B.a, N6.zero⟩ : N12))).toArray] (.agg (n12 (o12 P (Z12.mul N (i12 ((⟨A.a, N6.zero⟩ : N12))) (i12 ((⟨B.a, N6.zero⟩ : N12)))))).toArray) (by kernel_rfl) (by rw [e86, e89, e92]) (wmul12 ((⟨A.a, N6.zero⟩ : N12)) ((⟨B.a, N6.zero⟩ : N12)) c2 ⟨hA.out.1, ok6z⟩ ⟨hB.out.1, ok6z⟩) (fun w' hb => hK _ _ rfl hb)
  · refine Obl.plain rfl _ rfl rfl [] (by kernel_rfl) fun a W hF hC hD K hK => ?_
    obtain ⟨c1, c2, c3⟩ := hC
    have e10 : a.tmps.getD 10 undef = .pointer (some ⟨b10, 0, none⟩) := hF.2.2.2.1
    clear hF hD
    exact wpLd 62 (.tmp 10) rfl (c1.vb 3 _ rfl) 0 e10 (n6 (o6 P (Z6.mul N (i6 A.a) (i6 B.a)))) (part_all _ (n6_len _)) (n6_len _) Try.underlying62 rfl Try.szF6 (hK _ _ rfl (Below.refl _ _))
  · refine Obl.plain rfl _ rfl rfl [8] (by kernel_rfl) fun a W hF hC hD K hK => ?_
    have e94 : a.tmps.getD 94 undef = .agg (n6 (o6 P (Z6.mul N (i6 A.a) (i6 B.a)))).toArray := hD.1
    clear hF hD hC
    exact wp_bld1 (.tmp 94) rfl e94 Try.underlying64 Try.szF6 Try.zrF12 (n6_len _) (by decide) (hK _ _ (pad_n12 (o6 P (Z6.mul N (i6 A.a) (i6 B.a)))) (Below.refl _ _))
  · refine Obl.plain rfl _ rfl rfl [7, 9] (by kernel_rfl) fun a W hF hC hD K hK => ?_
    have e93 : a.tmps.getD 93 undef = .agg (n12 (o12 P (Z12.mul N (i12 ((⟨A.a, N6.zero⟩ : N12))) (i12 ((⟨B.a, N6.zero⟩ : N12)))))).toArray := hD.1
    have e95 : a.tmps.getD 95 undef = .agg (n12 ((⟨o6 P (Z6.mul N (i6 A.a) (i6 B.a)), N6.zero⟩ : N12))).toArray := hD.2.1
    clear hF hD hC
    exact wp_neqA (xs := n12 (o12 P (Z12.mul N (i12 ((⟨A.a, N6.zero⟩ : N12))) (i12 ((⟨B.a, N6.zero⟩ : N12)))))) (ys := n12 ((⟨o6 P (Z6.mul N (i6 A.a) (i6 B.a)), N6.zero⟩ : N12))) (.tmp 93) (.tmp 95) _ _ rfl e93 e95 Try.egF12 (b := true) ((eqF12 9995 (o12 P (Z12.mul N (i12 ((⟨A.a, N6.zero⟩ : N12))) (i12 ((⟨B.a, N6.zero⟩ : N12))))) ((⟨o6 P (Z6.mul N (i6 A.a) (i6 B.a)), N6.zero⟩ : N12))).trans (congrArg (fun b => Result.ok b W) (q12_of (law_in12 _ _)))) (hK _ _ rfl (Below.refl _ _))
  · refine Obl.plain rfl _ rfl rfl [10, 7] (by kernel_rfl) fun a W hF hC hD K hK => ?_
    have e96 : a.tmps.getD 96 undef = .bool false := hD.1
    clear hF hD hC
    exact wp_move (.tmp 96) rfl e96 (hK _ _ rfl (Below.refl _ _))
  · refine Obl.guarded rfl _ rfl 11 false 97 rfl rfl [11] (by kernel_rfl) (fun a W hF hC hD => hD.1) fun a W hF hC hD K hK => ?_
    have e3 : a.tmps.getD 3 undef = .pointer (some ⟨tb, 0, none⟩) := hF.1
    clear hF hD hC
    exact wp_move (.tmp 3) rfl e3 (hK _ _ rfl (Below.refl _ _))
  · refine Obl.guarded rfl _ rfl 11 false 97 rfl rfl [11] (by kernel_rfl) (fun a W hF hC hD => hD.1) fun a W hF hC hD K hK => ?_
    have e7 : a.tmps.getD 7 undef = .pointer (some ⟨b7, 0, none⟩) := hF.2.1
    clear hF hD hC
    exact wp_idx (.tmp 7) (.const (.int .i64 0)) rfl e7 0 rfl Try.underlying64 Try.szF6 (by decide) (hK _ _ rfl (Below.refl _ _))
  · refine Obl.guarded rfl _ rfl 11 false 97 rfl rfl [13, 11] (by kernel_rfl) (fun a W hF hC hD => hD.2.1) fun a W hF hC hD K hK => ?_
    have e99 : a.tmps.getD 99 undef = .pointer (some ⟨b7, 0, none⟩) := hD.1
    clear hF hD hC
    exact wp_idx (.tmp 99) (.const (.int .i64 0)) rfl e99 0 rfl Try.underlying62 Try.szF2' (by decide) (hK _ _ rfl (Below.refl _ _))
  · refine Obl.guarded rfl _ rfl 11 false 97 rfl rfl [14, 11] (by kernel_rfl) (fun a W hF hC hD => hD.2.1) fun a W hF hC hD K hK => ?_
    obtain ⟨c1, c2, c3⟩ := hC
    have e100 : a.tmps.getD 100 undef = .pointer (some ⟨b7, 0, none⟩) := hD.1
    clear hF hD
    exact wpLd 60 (.tmp 100) rfl (c1.vb 0 _ rfl) 0 e100 (n2 A.a.a) (by rfl) (n2_len _) Try.underlying60 rfl Try.szF2' (hK _ _ rfl (Below.refl _ _))
  · refine Obl.guarded rfl _ rfl 11 false 97 rfl rfl [15, 11] (by kernel_rfl) (fun a W hF hC hD => hD.2.1) fun a W hF hC hD K hK => ?_
    have e101 : a.tmps.getD 101 undef = .agg (n2 A.a.a).toArray := hD.1
    clear hF hD hC
    exact wp_bld1 (.tmp 101) rfl e101 Try.underlying62 Try.szF2' Try.zrF6 (n2_len _) (by decide) (hK _ _ (pad_n6 A.a.a) (Below.refl _ _))
  · refine Obl.guarded rfl _ rfl 11 false 97 rfl rfl [11] (by kernel_rfl) (fun a W hF hC hD => hD.1) fun a W hF hC hD K hK => ?_
    have e8 : a.tmps.getD 8 undef = .pointer (some ⟨b8, 0, none⟩) := hF.2.2.1
    clear hF hD hC
    exact wp_idx (.tmp 8) (.const (.int .i64 0)) rfl e8 0 rfl Try.underlying64 Try.szF6 (by decide) (hK _ _ rfl (Below.refl _ _))
  · refine Obl.guarded rfl _ rfl 11 false 97 rfl rfl [17, 11] (by kernel_rfl) (fun a W hF hC hD => hD.2.1) fun a W hF hC hD K hK => ?_
    have e103 : a.tmps.getD 103 undef = .pointer (some ⟨b8, 0, none⟩) := hD.1
    clear hF hD hC
    exact wp_idx (.tmp 103) (.const (.int .i64 0)) rfl e103 0 rfl Try.underlying62 Try.szF2' (by decide) (hK _ _ rfl (Below.refl _ _))
  · refine Obl.guarded rfl _ rfl 11 false 97 rfl rfl [18, 11] (by kernel_rfl) (fun a W hF hC hD => hD.2.1) fun a W hF hC hD K hK => ?_
    obtain ⟨c1, c2, c3⟩ := hC
    have e104 : a.tmps.getD 104 undef = .pointer (some ⟨b8, 0, none⟩) := hD.1
    clear hF hD
    exact wpLd 60 (.tmp 104) rfl (c1.vb 1 _ rfl) 0 e104 (n2 B.a.a) (by rfl) (n2_len _) Try.underlying60 rfl Try.szF2' (hK _ _ rfl (Below.refl _ _))
  · refine Obl.guarded rfl _ rfl 11 false 97 rfl rfl [19, 11] (by kernel_rfl) (fun a W hF hC hD => hD.2.1) fun a W hF hC hD K hK => ?_
    have e105 : a.tmps.getD 105 undef = .agg (n2 B.a.a).toArray := hD.1
    clear hF hD hC
    exact wp_bld1 (.tmp 105) rfl e105 Try.underlying62 Try.szF2' Try.zrF6 (n2_len _) (by decide) (hK _ _ (pad_n6 B.a.a) (Below.refl _ _))
  · refine Obl.guarded rfl _ rfl 11 false 97 rfl rfl [12, 16, 20, 11, 11] (by kernel_rfl) (fun a W hF hC hD => hD.2.2.2.1) fun a W hF hC hD K hK => ?_
    obtain ⟨c1, c2, c3⟩ := hC
    have e98 : a.tmps.getD 98 undef = .pointer (some ⟨tb, 0, none⟩) := hD.1
    have e102 : a.tmps.getD 102 undef = .agg (n6 ((⟨A.a.a, N2.zero, N2.zero⟩ : N6))).toArray := hD.2.1
    have e106 : a.tmps.getD 106 undef = .agg (n6 ((⟨B.a.a, N2.zero, N2.zero⟩ : N6))).toArray := hD.2.2.1
    clear hF hD
    exact wp_callV #[a.tmps.getD 98 undef, a.tmps.getD 102 undef, a.tmps.getD 106 undef] #[.pointer (some ⟨tb, 0, none⟩), .agg (n6 ((⟨A.a.a, N2.zero, N2.zero⟩ : N6))).toArray, .agg (n6 ((⟨B.a.a, N2.zero, N2.zero⟩ : N6))).toArray] (.agg (n6 (o6 P (Z6.mul N (i6 ((⟨A.a.a, N2.zero, N2.zero⟩ : N6))) (i6 ((⟨B.a.a, N2.zero, N2.zero⟩ : N6)))))).toArray) (by kernel_rfl) (by rw [e98, e102, e106]) (wmul6 ((⟨A.a.a, N2.zero, N2.zero⟩ : N6)) ((⟨B.a.a, N2.zero, N2.zero⟩ : N6)) c2 ⟨hA.out.1.1, ok2z, ok2z⟩ ⟨hB.out.1.1, ok2z, ok2z⟩) (fun w' hb => hK _ _ rfl hb)
  · refine Obl.guarded rfl _ rfl 11 false 97 rfl rfl [11] (by kernel_rfl) (fun a W hF hC hD => hD.1) fun a W hF hC hD K hK => ?_
    obtain ⟨c1, c2, c3⟩ := hC
    have e11 : a.tmps.getD 11 undef = .pointer (some ⟨b11, 0, none⟩) := hF.2.2.2.2.1
    clear hF hD
    exact wpLd 60 (.tmp 11) rfl (c1.vb 4 _ rfl) 0 e11 (n2 (o2 P (Z2.mul (i2 A.a.a) (i2 B.a.a)))) (part_all _ (n2_len _)) (n2_len _) Try.underlying60 rfl Try.szF2' (hK _ _ rfl (Below.refl _ _))
  · refine Obl.guarded rfl _ rfl 11 false 97 rfl rfl [22, 11] (by kernel_rfl) (fun a W hF hC hD => hD.2.1) fun a W hF hC hD K hK => ?_
    have e108 : a.tmps.getD 108 undef = .agg (n2 (o2 P (Z2.mul (i2 A.a.a) (i2 B.a.a)))).toArray := hD.1
    clear hF hD hC
    exact wp_bld1 (.tmp 108) rfl e108 Try.underlying62 Try.szF2' Try.zrF6 (n2_len _) (by decide) (hK _ _ (pad_n6 (o2 P (Z2.mul (i2 A.a.a) (i2 B.a.a)))) (Below.refl _ _))
  · refine Obl.guarded rfl _ rfl 11 false 97 rfl rfl [21, 23, 11] (by kernel_rfl) (fun a W hF hC hD => hD.2.2.1) fun a W hF hC hD K hK => ?_
    have e107 : a.tmps.getD 107 undef = .agg (n6 (o6 P (Z6.mul N (i6 ((⟨A.a.a, N2.zero, N2.zero⟩ : N6))) (i6 ((⟨B.a.a, N2.zero, N2.zero⟩ : N6)))))).toArray := hD.1
    have e109 : a.tmps.getD 109 undef = .agg (n6 ((⟨o2 P (Z2.mul (i2 A.a.a) (i2 B.a.a)), N2.zero, N2.zero⟩ : N6))).toArray := hD.2.1
    clear hF hD hC
    exact wp_neqA (xs := n6 (o6 P (Z6.mul N (i6 ((⟨A.a.a, N2.zero, N2.zero⟩ : N6))) (i6 ((⟨B.a.a, N2.zero, N2.zero⟩ : N6)))))) (ys := n6 ((⟨o2 P (Z2.mul (i2 A.a.a) (i2 B.a.a)), N2.zero, N2.zero⟩ : N6))) (.tmp 107) (.tmp 109) _ _ rfl e107 e109 Try.egF6 (b := true) ((eqF6 9996 (o6 P (Z6.mul N (i6 ((⟨A.a.a, N2.zero, N2.zero⟩ : N6))) (i6 ((⟨B.a.a, N2.zero, N2.zero⟩ : N6))))) ((⟨o2 P (Z2.mul (i2 A.a.a) (i2 B.a.a)), N2.zero, N2.zero⟩ : N6))).trans (congrArg (fun b => Result.ok b W) (q6_of (law_in6 _ _)))) (hK _ _ rfl (Below.refl _ _))
  · refine Obl.plain rfl _ rfl rfl [11, 24] (by kernel_rfl) fun a W hF hC hD K hK => ?_
    have e97 : a.tmps.getD 97 undef = .bool false := hD.1
    have e110 : a.tmps.getD 110 undef = .bool false := hD.2.1
    clear hF hD hC
    exact wp_pick (.tmp 97) (.const (.bool true)) (.tmp 110) rfl (b := false) e97 e110 (hK _ _ rfl (Below.refl _ _))
  rintro w7 hB hC _ rfl _ rfl _ rfl _ rfl _ rfl _ rfl _ rfl _ rfl _ rfl _ rfl _ rfl _ rfl _ rfl _ rfl _ rfl _ rfl _ rfl _ rfl _ rfl _ rfl _ rfl _ rfl _ rfl _ rfl _ rfl _ rfl
  change Below _ _ _ at hB
  change wpList _ _ _ _ _ _
  simp only [List.drop_succ_cons, List.drop_zero, Act.put, List.setIfInBounds_toArray, List.set_cons_zero, List.set_cons_succ]
  have hS7 := hide (hS6.out.next hB)
  clear hB hC hS6
  go_upto_region 11 with fail
  refine region_loc 8 172 [fun v _ => v = .pointer (some ⟨tb, 0, none⟩), fun v _ => v = .agg (n12 A).toArray, fun v _ => v = .pointer (some ⟨tb, 0, none⟩), fun v _ => v = .agg (n12 A).toArray, fun v _ => v = .agg (n12 (o12 P (Z12.conj (i12 A)))).toArray, fun v _ => v = .agg (n12 (o12 P (Z12.mul N (i12 A) (i12 (o12 P (Z12.conj (i12 A))))))).toArray, fun _ _ => True, fun _ _ => True]
    [(3, .pointer (some ⟨tb, 0, none⟩)), (7, .pointer (some ⟨b7, 0, none⟩))] (fun w' => St w0 w' [⟨b7, 64, n12 A⟩, ⟨b8, 64, n12 B⟩, ⟨b9, 64, n12 C⟩, ⟨b10, 62, n6 (o6 P (Z6.mul N (i6 A.a) (i6 B.a)))⟩, ⟨b11, 60, n2 (o2 P (Z2.mul (i2 A.a.a) (i2 B.a.a)))⟩] ∧ TW w' tb bf bt bm P n size N fr ∧ VB w' b1 66 (ask7 k A B C E T)) [6] 64 (z0 72) [(7, 6, n12 (o12 P (Z12.mul N (i12 A) (i12 (o12 P (Z12.conj (i12 A)))))))] (by kernel_rfl) (by kernel_rfl) rfl rfl
    (.cons (factB_eq _) (.cons (factB_eq _) (.cons (factB_eq _) (.cons (factB_eq _) (.cons (factB_eq _) (.cons (factB_eq _) (.cons (fun _ _ _ _ _ _ => trivial) (.cons (fun _ _ _ _ _ _ => trivial) .nil)))))))) (by kernel_rfl) (fun w' h => ⟨hS7.out.next h, hT.out.next (hS7.out.next h).bl, hV.out.next (hS7.out.next h).bl⟩) (by kernel_rfl) (by exact ⟨rfl, rfl, trivial⟩) (by kernel_rfl) (allC ⟨⟨_, _, rfl, rfl, rfl, rfl⟩⟩ allN) (allC (fun _ _ => trivial) allN) (by rfl) (allC ⟨⟨_, 12, 117, 5, rfl, rfl, rfl, rfl, rfl, rfl, by kernel_rfl, by kernel_rfl, fun v w h => h⟩⟩ allN) (allC (fun _ _ => trivial) allN) (show ([7] : List Nat).Nodup by decide) Try.zrF12 Try.szF12 (.cons (fun _ _ => ?_) (.cons (fun _ _ => ?_) (.cons (fun _ _ => ?_) (.cons (fun _ _ => ?_) (.cons (fun _ _ => ?_) (.cons (fun _ _ => ?_) (.cons (fun h _ => absurd h (by decide)) (.cons (fun _ h => absurd (show true = false from h) (by decide)) .nil)))))))) ?_
  · refine Obl.plain rfl _ rfl rfl [] (by kernel_rfl) fun a W hF hC hD K hK => ?_
    have e3 : a.tmps.getD 3 undef = .pointer (some ⟨tb, 0, none⟩) := hF.1
    clear hF hD hC
    exact wp_move (.tmp 3) rfl e3 (hK _ _ rfl (Below.refl _ _))
  · refine Obl.plain rfl _ rfl rfl [] (by kernel_rfl) fun a W hF hC hD K hK => ?_
    obtain ⟨c1, c2, c3⟩ := hC
    have e7 : a.tmps.getD 7 undef = .pointer (some ⟨b7, 0, none⟩) := hF.2.1
    clear hF hD
    exact wpLd 64 (.tmp 7) rfl (c1.vb 0 _ rfl) 0 e7 (n12 A) (part_all _ (n12_len _)) (n12_len _) Try.underlying64 rfl Try.szF12 (hK _ _ rfl (Below.refl _ _))
  · refine Obl.plain rfl _ rfl rfl [] (by kernel_rfl) fun a W hF hC hD K hK => ?_
    have e3 : a.tmps.getD 3 undef = .pointer (some ⟨tb, 0, none⟩) := hF.1
    clear hF hD hC
    exact wp_move (.tmp 3) rfl e3 (hK _ _ rfl (Below.refl _ _))
  · refine Obl.plain rfl _ rfl rfl [] (by kernel_rfl) fun a W hF hC hD K hK => ?_
    obtain ⟨c1, c2, c3⟩ := hC
    have e7 : a.tmps.getD 7 undef = .pointer (some ⟨b7, 0, none⟩) := hF.2.1
    clear hF hD
    exact wpLd 64 (.tmp 7) rfl (c1.vb 0 _ rfl) 0 e7 (n12 A) (part_all _ (n12_len _)) (n12_len _) Try.underlying64 rfl Try.szF12 (hK _ _ rfl (Below.refl _ _))
  · refine Obl.plain rfl _ rfl rfl [2, 3] (by kernel_rfl) fun a W hF hC hD K hK => ?_
    obtain ⟨c1, c2, c3⟩ := hC
    have e114 : a.tmps.getD 114 undef = .pointer (some ⟨tb, 0, none⟩) := hD.1
    have e115 : a.tmps.getD 115 undef = .agg (n12 A).toArray := hD.2.1
    clear hF hD
    exact wp_callV #[a.tmps.getD 114 undef, a.tmps.getD 115 undef] #[.pointer (some ⟨tb, 0, none⟩), .agg (n12 A).toArray] (.agg (n12 (o12 P (Z12.conj (i12 A)))).toArray) (by kernel_rfl) (by rw [e114, e115]) (wconj12 A c2 hA.out) (fun w' hb => hK _ _ rfl hb)
  · refine Obl.plain rfl _ rfl rfl [0, 1, 4, 4] (by kernel_rfl) fun a W hF hC hD K hK => ?_
    obtain ⟨c1, c2, c3⟩ := hC
    have e112 : a.tmps.getD 112 undef = .pointer (some ⟨tb, 0, none⟩) := hD.1
    have e113 : a.tmps.getD 113 undef = .agg (n12 A).toArray := hD.2.1
    have e116 : a.tmps.getD 116 undef = .agg (n12 (o12 P (Z12.conj (i12 A)))).toArray := hD.2.2.1
    clear hF hD
    exact wp_callV #[a.tmps.getD 112 undef, a.tmps.getD 113 undef, a.tmps.getD 116 undef] #[.pointer (some ⟨tb, 0, none⟩), .agg (n12 A).toArray, .agg (n12 (o12 P (Z12.conj (i12 A)))).toArray] (.agg (n12 (o12 P (Z12.mul N (i12 A) (i12 (o12 P (Z12.conj (i12 A))))))).toArray) (by kernel_rfl) (by rw [e112, e113, e116]) (wmul12 A (o12 P (Z12.conj (i12 A))) c2 hA.out (o12ok hP.out _)) (fun w' hb => hK _ _ rfl hb)
  rintro w8 bs hB hC hAl hDl hSl _ rfl _ rfl _ rfl _ rfl _ rfl _ rfl _ rfl _ -
  obtain ⟨hlb12, Lb12, hvb12, hnb12⟩ := hAl 6 (by decide)
  have hsb12 := hSl _ (.head _)
  clear hAl hDl hSl
  change _ ≤ bs 6 at hlb12
  change VB _ (bs 6) _ _ at hsb12
  change wpList _ _ _ _ _ _
  simp only [List.drop_succ_cons, List.drop_zero, Act.put, List.setIfInBounds_toArray, List.set_cons_zero, List.set_cons_succ]
  generalize bs 6 = b12 at *
  clear bs
  have hS8 : Hid (St w0 w8 [⟨b7, 64, n12 A⟩, ⟨b8, 64, n12 B⟩, ⟨b9, 64, n12 C⟩, ⟨b10, 62, n6 (o6 P (Z6.mul N (i6 A.a) (i6 B.a)))⟩, ⟨b11, 60, n2 (o2 P (Z2.mul (i2 A.a.a) (i2 B.a.a)))⟩, ⟨b12, 64, n12 (o12 P (Z12.mul N (i12 A) (i12 (o12 P (Z12.conj (i12 A))))))⟩]) := hide (hS7.out.pushL hB [⟨b12, 64, n12 (o12 P (Z12.mul N (i12 A) (i12 (o12 P (Z12.conj (i12 A))))))⟩] ⟨hlb12, hsb12, (fun d hd => by cases hd), trivial⟩)
  clear hB hC hS7 hlb12 hsb12 hvb12 hnb12 
  go_upto_region 12 with fail
  refine region_loc 12 172 [fun v _ => v = .pointer (some ⟨tb, 0, none⟩), fun v _ => v = .pointer (some ⟨b7, 0, none⟩), fun v _ => v = .pointer (some ⟨b7, 0, none⟩), fun v _ => v = .agg (n2 A.a.a).toArray, fun v _ => v = .pointer (some ⟨tb, 0, none⟩), fun v _ => v = .pointer (some ⟨b7, 0, none⟩), fun v _ => v = .pointer (some ⟨b7, 0, none⟩), fun v _ => v = .agg (n2 A.a.a).toArray, fun v _ => v = .agg (n2 (o2 P (Z2.conj (i2 A.a.a)))).toArray, fun v _ => v = .agg (n2 (o2 P (Z2.mul (i2 A.a.a) (i2 (o2 P (Z2.conj (i2 A.a.a))))))).toArray, fun _ _ => True, fun _ _ => True]
    [(3, .pointer (some ⟨tb, 0, none⟩)), (7, .pointer (some ⟨b7, 0, none⟩))] (fun w' => St w0 w' [⟨b7, 64, n12 A⟩, ⟨b8, 64, n12 B⟩, ⟨b9, 64, n12 C⟩, ⟨b10, 62, n6 (o6 P (Z6.mul N (i6 A.a) (i6 B.a)))⟩, ⟨b11, 60, n2 (o2 P (Z2.mul (i2 A.a.a) (i2 B.a.a)))⟩, ⟨b12, 64, n12 (o12 P (Z12.mul N (i12 A) (i12 (o12 P (Z12.conj (i12 A))))))⟩] ∧ TW w' tb bf bt bm P n size N fr ∧ VB w' b1 66 (ask7 k A B C E T)) [10] 60 (z0 12) [(11, 10, n2 (o2 P (Z2.mul (i2 A.a.a) (i2 (o2 P (Z2.conj (i2 A.a.a)))))))] (by kernel_rfl) (by kernel_rfl) rfl rfl
    (.cons (factB_eq _) (.cons (factB_eq _) (.cons (factB_eq _) (.cons (factB_eq _) (.cons (factB_eq _) (.cons (factB_eq _) (.cons (factB_eq _) (.cons (factB_eq _) (.cons (factB_eq _) (.cons (factB_eq _) (.cons (fun _ _ _ _ _ _ => trivial) (.cons (fun _ _ _ _ _ _ => trivial) .nil)))))))))))) (by kernel_rfl) (fun w' h => ⟨hS8.out.next h, hT.out.next (hS8.out.next h).bl, hV.out.next (hS8.out.next h).bl⟩) (by kernel_rfl) (by exact ⟨rfl, rfl, trivial⟩) (by kernel_rfl) (allC ⟨⟨_, _, rfl, rfl, rfl, rfl⟩⟩ allN) (allC (fun _ _ => trivial) allN) (by rfl) (allC ⟨⟨_, 13, 127, 9, rfl, rfl, rfl, rfl, rfl, rfl, by kernel_rfl, by kernel_rfl, fun v w h => h⟩⟩ allN) (allC (fun _ _ => trivial) allN) (show ([11] : List Nat).Nodup by decide) Try.zrF2' Try.szF2' (.cons (fun _ _ => ?_) (.cons (fun _ _ => ?_) (.cons (fun _ _ => ?_) (.cons (fun _ _ => ?_) (.cons (fun _ _ => ?_) (.cons (fun _ _ => ?_) (.cons (fun _ _ => ?_) (.cons (fun _ _ => ?_) (.cons (fun _ _ => ?_) (.cons (fun _ _ => ?_) (.cons (fun h _ => absurd h (by decide)) (.cons (fun _ h => absurd (show true = false from h) (by decide)) .nil)))))))))))) ?_
  · refine Obl.plain rfl _ rfl rfl [] (by kernel_rfl) fun a W hF hC hD K hK => ?_
    have e3 : a.tmps.getD 3 undef = .pointer (some ⟨tb, 0, none⟩) := hF.1
    clear hF hD hC
    exact wp_move (.tmp 3) rfl e3 (hK _ _ rfl (Below.refl _ _))
  · refine Obl.plain rfl _ rfl rfl [] (by kernel_rfl) fun a W hF hC hD K hK => ?_
    have e7 : a.tmps.getD 7 undef = .pointer (some ⟨b7, 0, none⟩) := hF.2.1
    clear hF hD hC
    exact wp_idx (.tmp 7) (.const (.int .i64 0)) rfl e7 0 rfl Try.underlying64 Try.szF6 (by decide) (hK _ _ rfl (Below.refl _ _))
  · refine Obl.plain rfl _ rfl rfl [1] (by kernel_rfl) fun a W hF hC hD K hK => ?_
    have e119 : a.tmps.getD 119 undef = .pointer (some ⟨b7, 0, none⟩) := hD.1
    clear hF hD hC
    exact wp_idx (.tmp 119) (.const (.int .i64 0)) rfl e119 0 rfl Try.underlying62 Try.szF2' (by decide) (hK _ _ rfl (Below.refl _ _))
  · refine Obl.plain rfl _ rfl rfl [2] (by kernel_rfl) fun a W hF hC hD K hK => ?_
    obtain ⟨c1, c2, c3⟩ := hC
    have e120 : a.tmps.getD 120 undef = .pointer (some ⟨b7, 0, none⟩) := hD.1
    clear hF hD
    exact wpLd 60 (.tmp 120) rfl (c1.vb 0 _ rfl) 0 e120 (n2 A.a.a) (by rfl) (n2_len _) Try.underlying60 rfl Try.szF2' (hK _ _ rfl (Below.refl _ _))
  · refine Obl.plain rfl _ rfl rfl [] (by kernel_rfl) fun a W hF hC hD K hK => ?_
    have e3 : a.tmps.getD 3 undef = .pointer (some ⟨tb, 0, none⟩) := hF.1
    clear hF hD hC
    exact wp_move (.tmp 3) rfl e3 (hK _ _ rfl (Below.refl _ _))
  · refine Obl.plain rfl _ rfl rfl [] (by kernel_rfl) fun a W hF hC hD K hK => ?_
    have e7 : a.tmps.getD 7 undef = .pointer (some ⟨b7, 0, none⟩) := hF.2.1
    clear hF hD hC
    exact wp_idx (.tmp 7) (.const (.int .i64 0)) rfl e7 0 rfl Try.underlying64 Try.szF6 (by decide) (hK _ _ rfl (Below.refl _ _))
  · refine Obl.plain rfl _ rfl rfl [5] (by kernel_rfl) fun a W hF hC hD K hK => ?_
    have e123 : a.tmps.getD 123 undef = .pointer (some ⟨b7, 0, none⟩) := hD.1
    clear hF hD hC
    exact wp_idx (.tmp 123) (.const (.int .i64 0)) rfl e123 0 rfl Try.underlying62 Try.szF2' (by decide) (hK _ _ rfl (Below.refl _ _))
  · refine Obl.plain rfl _ rfl rfl [6] (by kernel_rfl) fun a W hF hC hD K hK => ?_
    obtain ⟨c1, c2, c3⟩ := hC
    have e124 : a.tmps.getD 124 undef = .pointer (some ⟨b7, 0, none⟩) := hD.1
    clear hF hD
    exact wpLd 60 (.tmp 124) rfl (c1.vb 0 _ rfl) 0 e124 (n2 A.a.a) (by rfl) (n2_len _) Try.underlying60 rfl Try.szF2' (hK _ _ rfl (Below.refl _ _))
  · refine Obl.plain rfl _ rfl rfl [4, 7] (by kernel_rfl) fun a W hF hC hD K hK => ?_
    obtain ⟨c1, c2, c3⟩ := hC
    have e122 : a.tmps.getD 122 undef = .pointer (some ⟨tb, 0, none⟩) := hD.1
    have e125 : a.tmps.getD 125 undef = .agg (n2 A.a.a).toArray := hD.2.1
    clear hF hD
    exact wp_callV #[a.tmps.getD 122 undef, a.tmps.getD 125 undef] #[.pointer (some ⟨tb, 0, none⟩), .agg (n2 A.a.a).toArray] (.agg (n2 (o2 P (Z2.conj (i2 A.a.a)))).toArray) (by kernel_rfl) (by rw [e122, e125]) (wconj2 A.a.a c2 hA.out.1.1) (fun w' hb => hK _ _ rfl hb)
  · refine Obl.plain rfl _ rfl rfl [0, 3, 8, 8] (by kernel_rfl) fun a W hF hC hD K hK => ?_
    obtain ⟨c1, c2, c3⟩ := hC
    have e118 : a.tmps.getD 118 undef = .pointer (some ⟨tb, 0, none⟩) := hD.1
    have e121 : a.tmps.getD 121 undef = .agg (n2 A.a.a).toArray := hD.2.1
    have e126 : a.tmps.getD 126 undef = .agg (n2 (o2 P (Z2.conj (i2 A.a.a)))).toArray := hD.2.2.1
    clear hF hD
    exact wp_callV #[a.tmps.getD 118 undef, a.tmps.getD 121 undef, a.tmps.getD 126 undef] #[.pointer (some ⟨tb, 0, none⟩), .agg (n2 A.a.a).toArray, .agg (n2 (o2 P (Z2.conj (i2 A.a.a)))).toArray] (.agg (n2 (o2 P (Z2.mul (i2 A.a.a) (i2 (o2 P (Z2.conj (i2 A.a.a))))))).toArray) (by kernel_rfl) (by rw [e118, e121, e126]) (wmul2 A.a.a (o2 P (Z2.conj (i2 A.a.a))) c2 hA.out.1.1 (o2ok hP.out _)) (fun w' hb => hK _ _ rfl hb)
  rintro w9 bs hB hC hAl hDl hSl _ rfl _ rfl _ rfl _ rfl _ rfl _ rfl _ rfl _ rfl _ rfl _ rfl _ rfl _ -
  obtain ⟨hlb13, Lb13, hvb13, hnb13⟩ := hAl 10 (by decide)
  have hsb13 := hSl _ (.head _)
  clear hAl hDl hSl
  change _ ≤ bs 10 at hlb13
  change VB _ (bs 10) _ _ at hsb13
  change wpList _ _ _ _ _ _
  simp only [List.drop_succ_cons, List.drop_zero, Act.put, List.setIfInBounds_toArray, List.set_cons_zero, List.set_cons_succ]
  generalize bs 10 = b13 at *
  clear bs
  have hS9 : Hid (St w0 w9 [⟨b7, 64, n12 A⟩, ⟨b8, 64, n12 B⟩, ⟨b9, 64, n12 C⟩, ⟨b10, 62, n6 (o6 P (Z6.mul N (i6 A.a) (i6 B.a)))⟩, ⟨b11, 60, n2 (o2 P (Z2.mul (i2 A.a.a) (i2 B.a.a)))⟩, ⟨b12, 64, n12 (o12 P (Z12.mul N (i12 A) (i12 (o12 P (Z12.conj (i12 A))))))⟩, ⟨b13, 60, n2 (o2 P (Z2.mul (i2 A.a.a) (i2 (o2 P (Z2.conj (i2 A.a.a))))))⟩]) := hide (hS8.out.pushL hB [⟨b13, 60, n2 (o2 P (Z2.mul (i2 A.a.a) (i2 (o2 P (Z2.conj (i2 A.a.a))))))⟩] ⟨hlb13, hsb13, (fun d hd => by cases hd), trivial⟩)
  clear hB hC hS8 hlb13 hsb13 hvb13 hnb13 
  go_upto_region 13 with fail
  refine region_do 45 172 [fun v _ => v = .pointer (some ⟨b12, 36, none⟩), fun v _ => v = .agg (n6 ((o12 P (Z12.mul N (i12 A) (i12 (o12 P (Z12.conj (i12 A)))))).b)).toArray, fun v _ => v = .agg (n6 N6.zero).toArray, fun v _ => v = .bool true, fun v _ => v = .bool true, fun v _ => v = .pointer (some ⟨b13, 6, none⟩), fun v _ => v = vE ((o2 P (Z2.mul (i2 A.a.a) (i2 (o2 P (Z2.conj (i2 A.a.a)))))).b), fun v _ => v = vE 0, fun v _ => v = .bool true, fun v _ => v = .bool true, fun v _ => v = .bool true, fun v _ => v = .pointer (some ⟨tb, 0, none⟩), fun v _ => v = .pointer (some ⟨b7, 0, none⟩), fun v _ => v = .pointer (some ⟨b7, 0, none⟩), fun v _ => v = .agg (n2 A.a.a).toArray, fun v _ => v = .pointer (some ⟨tb, 0, none⟩), fun v _ => v = .pointer (some ⟨b8, 0, none⟩), fun v _ => v = .pointer (some ⟨b8, 0, none⟩), fun v _ => v = .agg (n2 B.a.a).toArray, fun v _ => v = .pointer (some ⟨b9, 0, none⟩), fun v _ => v = .pointer (some ⟨b9, 0, none⟩), fun v _ => v = .agg (n2 C.a.a).toArray, fun v _ => v = .agg (n2 (o2 P (Z2.add (i2 B.a.a) (i2 C.a.a)))).toArray, fun v _ => v = .agg (n2 (o2 P (Z2.mul (i2 A.a.a) (i2 (o2 P (Z2.add (i2 B.a.a) (i2 C.a.a))))))).toArray, fun v _ => v = .pointer (some ⟨tb, 0, none⟩), fun v _ => v = .pointer (some ⟨tb, 0, none⟩), fun v _ => v = .pointer (some ⟨b7, 0, none⟩), fun v _ => v = .pointer (some ⟨b7, 0, none⟩), fun v _ => v = .agg (n2 A.a.a).toArray, fun v _ => v = .pointer (some ⟨b8, 0, none⟩), fun v _ => v = .pointer (some ⟨b8, 0, none⟩), fun v _ => v = .agg (n2 B.a.a).toArray, fun v _ => v = .agg (n2 (o2 P (Z2.mul (i2 A.a.a) (i2 B.a.a)))).toArray, fun v _ => v = .pointer (some ⟨tb, 0, none⟩), fun v _ => v = .pointer (some ⟨b7, 0, none⟩), fun v _ => v = .pointer (some ⟨b7, 0, none⟩), fun v _ => v = .agg (n2 A.a.a).toArray, fun v _ => v = .pointer (some ⟨b9, 0, none⟩), fun v _ => v = .pointer (some ⟨b9, 0, none⟩), fun v _ => v = .agg (n2 C.a.a).toArray, fun v _ => v = .agg (n2 (o2 P (Z2.mul (i2 A.a.a) (i2 C.a.a)))).toArray, fun v _ => v = .agg (n2 (o2 P (Z2.add (i2 (o2 P (Z2.mul (i2 A.a.a) (i2 B.a.a)))) (i2 (o2 P (Z2.mul (i2 A.a.a) (i2 C.a.a))))))).toArray, fun v _ => v = .bool true, fun v _ => v = .bool true, fun v _ => v = .bool true]
    [(12, .pointer (some ⟨b12, 0, none⟩)), (13, .pointer (some ⟨b13, 0, none⟩)), (3, .pointer (some ⟨tb, 0, none⟩)), (7, .pointer (some ⟨b7, 0, none⟩)), (8, .pointer (some ⟨b8, 0, none⟩)), (9, .pointer (some ⟨b9, 0, none⟩))] (fun w' => St w0 w' [⟨b7, 64, n12 A⟩, ⟨b8, 64, n12 B⟩, ⟨b9, 64, n12 C⟩, ⟨b10, 62, n6 (o6 P (Z6.mul N (i6 A.a) (i6 B.a)))⟩, ⟨b11, 60, n2 (o2 P (Z2.mul (i2 A.a.a) (i2 B.a.a)))⟩, ⟨b12, 64, n12 (o12 P (Z12.mul N (i12 A) (i12 (o12 P (Z12.conj (i12 A))))))⟩, ⟨b13, 60, n2 (o2 P (Z2.mul (i2 A.a.a) (i2 (o2 P (Z2.conj (i2 A.a.a))))))⟩] ∧ TW w' tb bf bt bm P n size N fr ∧ VB w' b1 66 (ask7 k A B C E T)) (fun w' => True) 999 none (by kernel_rfl) (by kernel_rfl) rfl rfl
    (.cons (Fact.eq _) rfl (.cons (Fact.eq _) rfl (.cons (Fact.eq _) rfl (.cons (Fact.eq _) rfl (.cons (Fact.eq _) rfl (.cons (Fact.eq _) rfl (.cons (Fact.eq _) rfl (.cons (Fact.eq _) rfl (.cons (Fact.eq _) rfl (.cons (Fact.eq _) rfl (.cons (Fact.eq _) rfl (.cons (Fact.eq _) rfl (.cons (Fact.eq _) rfl (.cons (Fact.eq _) rfl (.cons (Fact.eq _) rfl (.cons (Fact.eq _) rfl (.cons (Fact.eq _) rfl (.cons (Fact.eq _) rfl (.cons (Fact.eq _) rfl (.cons (Fact.eq _) rfl (.cons (Fact.eq _) rfl (.cons (Fact.eq _) rfl (.cons (Fact.eq _) rfl (.cons (Fact.eq _) rfl (.cons (Fact.eq _) rfl (.cons (Fact.eq _) rfl (.cons (Fact.eq _) rfl (.cons (Fact.eq _) rfl (.cons (Fact.eq _) rfl (.cons (Fact.eq _) rfl (.cons (Fact.eq _) rfl (.cons (Fact.eq _) rfl (.cons (Fact.eq _) rfl (.cons (Fact.eq _) rfl (.cons (Fact.eq _) rfl (.cons (Fact.eq _) rfl (.cons (Fact.eq _) rfl (.cons (Fact.eq _) rfl (.cons (Fact.eq _) rfl (.cons (Fact.eq _) rfl (.cons (Fact.eq _) rfl (.cons (Fact.eq _) rfl (.cons (Fact.eq _) rfl (.cons (Fact.eq _) rfl (.cons (Fact.eq _) rfl (.nil _)))))))))))))))))))))))))))))))))))))))))))))) (fun w' h => ⟨hS9.out.next h, hT.out.next (hS9.out.next h).bl, hV.out.next (hS9.out.next h).bl⟩) (fun w' h => trivial) (by kernel_rfl) (by exact ⟨rfl, rfl, rfl, rfl, rfl, rfl, trivial⟩) (.cons ?_ (.cons ?_ (.cons ?_ (.cons ?_ (.cons ?_ (.cons ?_ (.cons ?_ (.cons ?_ (.cons ?_ (.cons ?_ (.cons ?_ (.cons ?_ (.cons ?_ (.cons ?_ (.cons ?_ (.cons ?_ (.cons ?_ (.cons ?_ (.cons ?_ (.cons ?_ (.cons ?_ (.cons ?_ (.cons ?_ (.cons ?_ (.cons ?_ (.cons ?_ (.cons ?_ (.cons ?_ (.cons ?_ (.cons ?_ (.cons ?_ (.cons ?_ (.cons ?_ (.cons ?_ (.cons ?_ (.cons ?_ (.cons ?_ (.cons ?_ (.cons ?_ (.cons ?_ (.cons ?_ (.cons ?_ (.cons ?_ (.cons ?_ (.cons ?_ .nil))))))))))))))))))))))))))))))))))))))))))))) ?_
  · refine Obl.plain rfl _ rfl rfl [] (by kernel_rfl) fun a W hF hC hD K hK => ?_
    have e12 : a.tmps.getD 12 undef = .pointer (some ⟨b12, 0, none⟩) := hF.1
    clear hF hD hC
    exact wp_idx (.tmp 12) (.const (.int .i64 1)) rfl e12 1 rfl Try.underlying64 Try.szF6 (by decide) (hK _ _ rfl (Below.refl _ _))
  · refine Obl.plain rfl _ rfl rfl [0] (by kernel_rfl) fun a W hF hC hD K hK => ?_
    obtain ⟨c1, c2, c3⟩ := hC
    have e128 : a.tmps.getD 128 undef = .pointer (some ⟨b12, 36, none⟩) := hD.1
    clear hF hD
    exact wpLd 62 (.tmp 128) rfl (c1.vb 5 _ rfl) 36 e128 (n6 ((o12 P (Z12.mul N (i12 A) (i12 (o12 P (Z12.conj (i12 A)))))).b)) (part1 _ _ (n6_len _) (n6_len _)) (n6_len _) Try.underlying62 rfl Try.szF6 (hK _ _ rfl (Below.refl _ _))
  · refine Obl.plain rfl _ rfl rfl [] (by kernel_rfl) fun a W hF hC hD K hK => ?_
    clear hF hD hC
    exact wp_value (.agg (n6 N6.zero).toArray) (by kernel_rfl) (hK _ _ rfl (Below.refl _ _))
  · refine Obl.plain rfl _ rfl rfl [1, 2] (by kernel_rfl) fun a W hF hC hD K hK => ?_
    have e129 : a.tmps.getD 129 undef = .agg (n6 ((o12 P (Z12.mul N (i12 A) (i12 (o12 P (Z12.conj (i12 A)))))).b)).toArray := hD.1
    have e130 : a.tmps.getD 130 undef = .agg (n6 N6.zero).toArray := hD.2.1
    clear hF hD hC
    exact wp_eqlA (xs := n6 ((o12 P (Z12.mul N (i12 A) (i12 (o12 P (Z12.conj (i12 A)))))).b)) (ys := n6 N6.zero) (.tmp 129) (.tmp 130) _ _ rfl e129 e130 Try.egF6 (b := true) ((eqF6 9996 ((o12 P (Z12.mul N (i12 A) (i12 (o12 P (Z12.conj (i12 A)))))).b) N6.zero).trans (congrArg (fun b => Result.ok b W) (q6_of (law_norm12 hP.out.1 _)))) (hK _ _ rfl (Below.refl _ _))
  · refine Obl.plain rfl _ rfl rfl [3] (by kernel_rfl) fun a W hF hC hD K hK => ?_
    have e131 : a.tmps.getD 131 undef = .bool true := hD.1
    clear hF hD hC
    exact wp_move (.tmp 131) rfl e131 (hK _ _ rfl (Below.refl _ _))
  · refine Obl.guarded rfl _ rfl 4 true 132 rfl rfl [4] (by kernel_rfl) (fun a W hF hC hD => hD.1) fun a W hF hC hD K hK => ?_
    have e13 : a.tmps.getD 13 undef = .pointer (some ⟨b13, 0, none⟩) := hF.2.1
    clear hF hD hC
    exact wp_idx (.tmp 13) (.const (.int .i64 1)) rfl e13 1 rfl Try.underlying60 Try.sz24 (by decide) (hK _ _ rfl (Below.refl _ _))
  · refine Obl.guarded rfl _ rfl 4 true 132 rfl rfl [5, 4] (by kernel_rfl) (fun a W hF hC hD => hD.2.1) fun a W hF hC hD K hK => ?_
    obtain ⟨c1, c2, c3⟩ := hC
    have e133 : a.tmps.getD 133 undef = .pointer (some ⟨b13, 6, none⟩) := hD.1
    clear hF hD
    exact wpLd 24 (.tmp 133) rfl (c1.vb 6 _ rfl) 6 e133 (ve ((o2 P (Z2.mul (i2 A.a.a) (i2 (o2 P (Z2.conj (i2 A.a.a)))))).b)) (part1 _ _ (ve_length _) (ve_length _)) (ve_length _) Try.underlying24 rfl Try.sz24 (hK _ _ rfl (Below.refl _ _))
  · refine Obl.guarded rfl _ rfl 4 true 132 rfl rfl [4] (by kernel_rfl) (fun a W hF hC hD => hD.1) fun a W hF hC hD K hK => ?_
    clear hF hD hC
    exact wp_value (vE 0) (by kernel_rfl) (hK _ _ rfl (Below.refl _ _))
  · refine Obl.guarded rfl _ rfl 4 true 132 rfl rfl [6, 7, 4] (by kernel_rfl) (fun a W hF hC hD => hD.2.2.1) fun a W hF hC hD K hK => ?_
    have e134 : a.tmps.getD 134 undef = vE ((o2 P (Z2.mul (i2 A.a.a) (i2 (o2 P (Z2.conj (i2 A.a.a)))))).b) := hD.1
    have e135 : a.tmps.getD 135 undef = vE 0 := hD.2.1
    clear hF hD hC
    exact wp_eqlA (xs := ve ((o2 P (Z2.mul (i2 A.a.a) (i2 (o2 P (Z2.conj (i2 A.a.a)))))).b)) (ys := ve 0) (.tmp 134) (.tmp 135) _ _ rfl e134 e135 Try.egN (b := true) ((eqVEd 9998 _ Try.underlying24 ((o2 P (Z2.mul (i2 A.a.a) (i2 (o2 P (Z2.conj (i2 A.a.a)))))).b) 0).trans (congrArg (fun b => Result.ok b W) (eqv_of (law_norm2 hP.out.1 _)))) (hK _ _ rfl (Below.refl _ _))
  · refine Obl.plain rfl _ rfl rfl [4, 8] (by kernel_rfl) fun a W hF hC hD K hK => ?_
    have e132 : a.tmps.getD 132 undef = .bool true := hD.1
    have e136 : a.tmps.getD 136 undef = .bool true := hD.2.1
    clear hF hD hC
    exact wp_pick (.tmp 132) (.tmp 136) (.const (.bool false)) rfl (b := true) e132 e136 (hK _ _ rfl (Below.refl _ _))
  · refine Obl.plain rfl _ rfl rfl [9, 4] (by kernel_rfl) fun a W hF hC hD K hK => ?_
    have e137 : a.tmps.getD 137 undef = .bool true := hD.1
    clear hF hD hC
    exact wp_move (.tmp 137) rfl e137 (hK _ _ rfl (Below.refl _ _))
  · refine Obl.guarded rfl _ rfl 10 true 138 rfl rfl [10] (by kernel_rfl) (fun a W hF hC hD => hD.1) fun a W hF hC hD K hK => ?_
    have e3 : a.tmps.getD 3 undef = .pointer (some ⟨tb, 0, none⟩) := hF.2.2.1
    clear hF hD hC
    exact wp_move (.tmp 3) rfl e3 (hK _ _ rfl (Below.refl _ _))
  · refine Obl.guarded rfl _ rfl 10 true 138 rfl rfl [10] (by kernel_rfl) (fun a W hF hC hD => hD.1) fun a W hF hC hD K hK => ?_
    have e7 : a.tmps.getD 7 undef = .pointer (some ⟨b7, 0, none⟩) := hF.2.2.2.1
    clear hF hD hC
    exact wp_idx (.tmp 7) (.const (.int .i64 0)) rfl e7 0 rfl Try.underlying64 Try.szF6 (by decide) (hK _ _ rfl (Below.refl _ _))
  · refine Obl.guarded rfl _ rfl 10 true 138 rfl rfl [12, 10] (by kernel_rfl) (fun a W hF hC hD => hD.2.1) fun a W hF hC hD K hK => ?_
    have e140 : a.tmps.getD 140 undef = .pointer (some ⟨b7, 0, none⟩) := hD.1
    clear hF hD hC
    exact wp_idx (.tmp 140) (.const (.int .i64 0)) rfl e140 0 rfl Try.underlying62 Try.szF2' (by decide) (hK _ _ rfl (Below.refl _ _))
  · refine Obl.guarded rfl _ rfl 10 true 138 rfl rfl [13, 10] (by kernel_rfl) (fun a W hF hC hD => hD.2.1) fun a W hF hC hD K hK => ?_
    obtain ⟨c1, c2, c3⟩ := hC
    have e141 : a.tmps.getD 141 undef = .pointer (some ⟨b7, 0, none⟩) := hD.1
    clear hF hD
    exact wpLd 60 (.tmp 141) rfl (c1.vb 0 _ rfl) 0 e141 (n2 A.a.a) (by rfl) (n2_len _) Try.underlying60 rfl Try.szF2' (hK _ _ rfl (Below.refl _ _))
  · refine Obl.guarded rfl _ rfl 10 true 138 rfl rfl [10] (by kernel_rfl) (fun a W hF hC hD => hD.1) fun a W hF hC hD K hK => ?_
    have e3 : a.tmps.getD 3 undef = .pointer (some ⟨tb, 0, none⟩) := hF.2.2.1
    clear hF hD hC
    exact wp_move (.tmp 3) rfl e3 (hK _ _ rfl (Below.refl _ _))
  · refine Obl.guarded rfl _ rfl 10 true 138 rfl rfl [10] (by kernel_rfl) (fun a W hF hC hD => hD.1) fun a W hF hC hD K hK => ?_
    have e8 : a.tmps.getD 8 undef = .pointer (some ⟨b8, 0, none⟩) := hF.2.2.2.2.1
    clear hF hD hC
    exact wp_idx (.tmp 8) (.const (.int .i64 0)) rfl e8 0 rfl Try.underlying64 Try.szF6 (by decide) (hK _ _ rfl (Below.refl _ _))
  · refine Obl.guarded rfl _ rfl 10 true 138 rfl rfl [16, 10] (by kernel_rfl) (fun a W hF hC hD => hD.2.1) fun a W hF hC hD K hK => ?_
    have e144 : a.tmps.getD 144 undef = .pointer (some ⟨b8, 0, none⟩) := hD.1
    clear hF hD hC
    exact wp_idx (.tmp 144) (.const (.int .i64 0)) rfl e144 0 rfl Try.underlying62 Try.szF2' (by decide) (hK _ _ rfl (Below.refl _ _))
  · refine Obl.guarded rfl _ rfl 10 true 138 rfl rfl [17, 10] (by kernel_rfl) (fun a W hF hC hD => hD.2.1) fun a W hF hC hD K hK => ?_
    obtain ⟨c1, c2, c3⟩ := hC
    have e145 : a.tmps.getD 145 undef = .pointer (some ⟨b8, 0, none⟩) := hD.1
    clear hF hD
    exact wpLd 60 (.tmp 145) rfl (c1.vb 1 _ rfl) 0 e145 (n2 B.a.a) (by rfl) (n2_len _) Try.underlying60 rfl Try.szF2' (hK _ _ rfl (Below.refl _ _))
  · refine Obl.guarded rfl _ rfl 10 true 138 rfl rfl [10] (by kernel_rfl) (fun a W hF hC hD => hD.1) fun a W hF hC hD K hK => ?_
    have e9 : a.tmps.getD 9 undef = .pointer (some ⟨b9, 0, none⟩) := hF.2.2.2.2.2.1
    clear hF hD hC
    exact wp_idx (.tmp 9) (.const (.int .i64 0)) rfl e9 0 rfl Try.underlying64 Try.szF6 (by decide) (hK _ _ rfl (Below.refl _ _))
  · refine Obl.guarded rfl _ rfl 10 true 138 rfl rfl [19, 10] (by kernel_rfl) (fun a W hF hC hD => hD.2.1) fun a W hF hC hD K hK => ?_
    have e147 : a.tmps.getD 147 undef = .pointer (some ⟨b9, 0, none⟩) := hD.1
    clear hF hD hC
    exact wp_idx (.tmp 147) (.const (.int .i64 0)) rfl e147 0 rfl Try.underlying62 Try.szF2' (by decide) (hK _ _ rfl (Below.refl _ _))
  · refine Obl.guarded rfl _ rfl 10 true 138 rfl rfl [20, 10] (by kernel_rfl) (fun a W hF hC hD => hD.2.1) fun a W hF hC hD K hK => ?_
    obtain ⟨c1, c2, c3⟩ := hC
    have e148 : a.tmps.getD 148 undef = .pointer (some ⟨b9, 0, none⟩) := hD.1
    clear hF hD
    exact wpLd 60 (.tmp 148) rfl (c1.vb 2 _ rfl) 0 e148 (n2 C.a.a) (by rfl) (n2_len _) Try.underlying60 rfl Try.szF2' (hK _ _ rfl (Below.refl _ _))
  · refine Obl.guarded rfl _ rfl 10 true 138 rfl rfl [15, 18, 21, 10, 10] (by kernel_rfl) (fun a W hF hC hD => hD.2.2.2.1) fun a W hF hC hD K hK => ?_
    obtain ⟨c1, c2, c3⟩ := hC
    have e143 : a.tmps.getD 143 undef = .pointer (some ⟨tb, 0, none⟩) := hD.1
    have e146 : a.tmps.getD 146 undef = .agg (n2 B.a.a).toArray := hD.2.1
    have e149 : a.tmps.getD 149 undef = .agg (n2 C.a.a).toArray := hD.2.2.1
    clear hF hD
    exact wp_callV #[a.tmps.getD 143 undef, a.tmps.getD 146 undef, a.tmps.getD 149 undef] #[.pointer (some ⟨tb, 0, none⟩), .agg (n2 B.a.a).toArray, .agg (n2 C.a.a).toArray] (.agg (n2 (o2 P (Z2.add (i2 B.a.a) (i2 C.a.a)))).toArray) (by kernel_rfl) (by rw [e143, e146, e149]) (wadd2 B.a.a C.a.a c2 hB.out.1.1 hC.out.1.1) (fun w' hb => hK _ _ rfl hb)
  · refine Obl.guarded rfl _ rfl 10 true 138 rfl rfl [11, 14, 22, 22, 10] (by kernel_rfl) (fun a W hF hC hD => hD.2.2.2.2.1) fun a W hF hC hD K hK => ?_
    obtain ⟨c1, c2, c3⟩ := hC
    have e139 : a.tmps.getD 139 undef = .pointer (some ⟨tb, 0, none⟩) := hD.1
    have e142 : a.tmps.getD 142 undef = .agg (n2 A.a.a).toArray := hD.2.1
    have e150 : a.tmps.getD 150 undef = .agg (n2 (o2 P (Z2.add (i2 B.a.a) (i2 C.a.a)))).toArray := hD.2.2.1
    clear hF hD
    exact wp_callV #[a.tmps.getD 139 undef, a.tmps.getD 142 undef, a.tmps.getD 150 undef] #[.pointer (some ⟨tb, 0, none⟩), .agg (n2 A.a.a).toArray, .agg (n2 (o2 P (Z2.add (i2 B.a.a) (i2 C.a.a)))).toArray] (.agg (n2 (o2 P (Z2.mul (i2 A.a.a) (i2 (o2 P (Z2.add (i2 B.a.a) (i2 C.a.a))))))).toArray) (by kernel_rfl) (by rw [e139, e142, e150]) (wmul2 A.a.a (o2 P (Z2.add (i2 B.a.a) (i2 C.a.a))) c2 hA.out.1.1 (o2ok hP.out _)) (fun w' hb => hK _ _ rfl hb)
  · refine Obl.guarded rfl _ rfl 10 true 138 rfl rfl [10] (by kernel_rfl) (fun a W hF hC hD => hD.1) fun a W hF hC hD K hK => ?_
    have e3 : a.tmps.getD 3 undef = .pointer (some ⟨tb, 0, none⟩) := hF.2.2.1
    clear hF hD hC
    exact wp_move (.tmp 3) rfl e3 (hK _ _ rfl (Below.refl _ _))
  · refine Obl.guarded rfl _ rfl 10 true 138 rfl rfl [10] (by kernel_rfl) (fun a W hF hC hD => hD.1) fun a W hF hC hD K hK => ?_
    have e3 : a.tmps.getD 3 undef = .pointer (some ⟨tb, 0, none⟩) := hF.2.2.1
    clear hF hD hC
    exact wp_move (.tmp 3) rfl e3 (hK _ _ rfl (Below.refl _ _))
  · refine Obl.guarded rfl _ rfl 10 true 138 rfl rfl [10] (by kernel_rfl) (fun a W hF hC hD => hD.1) fun a W hF hC hD K hK => ?_
    have e7 : a.tmps.getD 7 undef = .pointer (some ⟨b7, 0, none⟩) := hF.2.2.2.1
    clear hF hD hC
    exact wp_idx (.tmp 7) (.const (.int .i64 0)) rfl e7 0 rfl Try.underlying64 Try.szF6 (by decide) (hK _ _ rfl (Below.refl _ _))
  · refine Obl.guarded rfl _ rfl 10 true 138 rfl rfl [26, 10] (by kernel_rfl) (fun a W hF hC hD => hD.2.1) fun a W hF hC hD K hK => ?_
    have e154 : a.tmps.getD 154 undef = .pointer (some ⟨b7, 0, none⟩) := hD.1
    clear hF hD hC
    exact wp_idx (.tmp 154) (.const (.int .i64 0)) rfl e154 0 rfl Try.underlying62 Try.szF2' (by decide) (hK _ _ rfl (Below.refl _ _))
  · refine Obl.guarded rfl _ rfl 10 true 138 rfl rfl [27, 10] (by kernel_rfl) (fun a W hF hC hD => hD.2.1) fun a W hF hC hD K hK => ?_
    obtain ⟨c1, c2, c3⟩ := hC
    have e155 : a.tmps.getD 155 undef = .pointer (some ⟨b7, 0, none⟩) := hD.1
    clear hF hD
    exact wpLd 60 (.tmp 155) rfl (c1.vb 0 _ rfl) 0 e155 (n2 A.a.a) (by rfl) (n2_len _) Try.underlying60 rfl Try.szF2' (hK _ _ rfl (Below.refl _ _))
  · refine Obl.guarded rfl _ rfl 10 true 138 rfl rfl [10] (by kernel_rfl) (fun a W hF hC hD => hD.1) fun a W hF hC hD K hK => ?_
    have e8 : a.tmps.getD 8 undef = .pointer (some ⟨b8, 0, none⟩) := hF.2.2.2.2.1
    clear hF hD hC
    exact wp_idx (.tmp 8) (.const (.int .i64 0)) rfl e8 0 rfl Try.underlying64 Try.szF6 (by decide) (hK _ _ rfl (Below.refl _ _))
  · refine Obl.guarded rfl _ rfl 10 true 138 rfl rfl [29, 10] (by kernel_rfl) (fun a W hF hC hD => hD.2.1) fun a W hF hC hD K hK => ?_
    have e157 : a.tmps.getD 157 undef = .pointer (some ⟨b8, 0, none⟩) := hD.1
    clear hF hD hC
    exact wp_idx (.tmp 157) (.const (.int .i64 0)) rfl e157 0 rfl Try.underlying62 Try.szF2' (by decide) (hK _ _ rfl (Below.refl _ _))
  · refine Obl.guarded rfl _ rfl 10 true 138 rfl rfl [30, 10] (by kernel_rfl) (fun a W hF hC hD => hD.2.1) fun a W hF hC hD K hK => ?_
    obtain ⟨c1, c2, c3⟩ := hC
    have e158 : a.tmps.getD 158 undef = .pointer (some ⟨b8, 0, none⟩) := hD.1
    clear hF hD
    exact wpLd 60 (.tmp 158) rfl (c1.vb 1 _ rfl) 0 e158 (n2 B.a.a) (by rfl) (n2_len _) Try.underlying60 rfl Try.szF2' (hK _ _ rfl (Below.refl _ _))
  · refine Obl.guarded rfl _ rfl 10 true 138 rfl rfl [25, 28, 31, 23, 10] (by kernel_rfl) (fun a W hF hC hD => hD.2.2.2.2.1) fun a W hF hC hD K hK => ?_
    obtain ⟨c1, c2, c3⟩ := hC
    have e153 : a.tmps.getD 153 undef = .pointer (some ⟨tb, 0, none⟩) := hD.1
    have e156 : a.tmps.getD 156 undef = .agg (n2 A.a.a).toArray := hD.2.1
    have e159 : a.tmps.getD 159 undef = .agg (n2 B.a.a).toArray := hD.2.2.1
    clear hF hD
    exact wp_callV #[a.tmps.getD 153 undef, a.tmps.getD 156 undef, a.tmps.getD 159 undef] #[.pointer (some ⟨tb, 0, none⟩), .agg (n2 A.a.a).toArray, .agg (n2 B.a.a).toArray] (.agg (n2 (o2 P (Z2.mul (i2 A.a.a) (i2 B.a.a)))).toArray) (by kernel_rfl) (by rw [e153, e156, e159]) (wmul2 A.a.a B.a.a c2 hA.out.1.1 hB.out.1.1) (fun w' hb => hK _ _ rfl hb)
  · refine Obl.guarded rfl _ rfl 10 true 138 rfl rfl [10] (by kernel_rfl) (fun a W hF hC hD => hD.1) fun a W hF hC hD K hK => ?_
    have e3 : a.tmps.getD 3 undef = .pointer (some ⟨tb, 0, none⟩) := hF.2.2.1
    clear hF hD hC
    exact wp_move (.tmp 3) rfl e3 (hK _ _ rfl (Below.refl _ _))
  · refine Obl.guarded rfl _ rfl 10 true 138 rfl rfl [10] (by kernel_rfl) (fun a W hF hC hD => hD.1) fun a W hF hC hD K hK => ?_
    have e7 : a.tmps.getD 7 undef = .pointer (some ⟨b7, 0, none⟩) := hF.2.2.2.1
    clear hF hD hC
    exact wp_idx (.tmp 7) (.const (.int .i64 0)) rfl e7 0 rfl Try.underlying64 Try.szF6 (by decide) (hK _ _ rfl (Below.refl _ _))
  · refine Obl.guarded rfl _ rfl 10 true 138 rfl rfl [34, 10] (by kernel_rfl) (fun a W hF hC hD => hD.2.1) fun a W hF hC hD K hK => ?_
    have e162 : a.tmps.getD 162 undef = .pointer (some ⟨b7, 0, none⟩) := hD.1
    clear hF hD hC
    exact wp_idx (.tmp 162) (.const (.int .i64 0)) rfl e162 0 rfl Try.underlying62 Try.szF2' (by decide) (hK _ _ rfl (Below.refl _ _))
  · refine Obl.guarded rfl _ rfl 10 true 138 rfl rfl [35, 10] (by kernel_rfl) (fun a W hF hC hD => hD.2.1) fun a W hF hC hD K hK => ?_
    obtain ⟨c1, c2, c3⟩ := hC
    have e163 : a.tmps.getD 163 undef = .pointer (some ⟨b7, 0, none⟩) := hD.1
    clear hF hD
    exact wpLd 60 (.tmp 163) rfl (c1.vb 0 _ rfl) 0 e163 (n2 A.a.a) (by rfl) (n2_len _) Try.underlying60 rfl Try.szF2' (hK _ _ rfl (Below.refl _ _))
  · refine Obl.guarded rfl _ rfl 10 true 138 rfl rfl [10] (by kernel_rfl) (fun a W hF hC hD => hD.1) fun a W hF hC hD K hK => ?_
    have e9 : a.tmps.getD 9 undef = .pointer (some ⟨b9, 0, none⟩) := hF.2.2.2.2.2.1
    clear hF hD hC
    exact wp_idx (.tmp 9) (.const (.int .i64 0)) rfl e9 0 rfl Try.underlying64 Try.szF6 (by decide) (hK _ _ rfl (Below.refl _ _))
  · refine Obl.guarded rfl _ rfl 10 true 138 rfl rfl [37, 10] (by kernel_rfl) (fun a W hF hC hD => hD.2.1) fun a W hF hC hD K hK => ?_
    have e165 : a.tmps.getD 165 undef = .pointer (some ⟨b9, 0, none⟩) := hD.1
    clear hF hD hC
    exact wp_idx (.tmp 165) (.const (.int .i64 0)) rfl e165 0 rfl Try.underlying62 Try.szF2' (by decide) (hK _ _ rfl (Below.refl _ _))
  · refine Obl.guarded rfl _ rfl 10 true 138 rfl rfl [38, 10] (by kernel_rfl) (fun a W hF hC hD => hD.2.1) fun a W hF hC hD K hK => ?_
    obtain ⟨c1, c2, c3⟩ := hC
    have e166 : a.tmps.getD 166 undef = .pointer (some ⟨b9, 0, none⟩) := hD.1
    clear hF hD
    exact wpLd 60 (.tmp 166) rfl (c1.vb 2 _ rfl) 0 e166 (n2 C.a.a) (by rfl) (n2_len _) Try.underlying60 rfl Try.szF2' (hK _ _ rfl (Below.refl _ _))
  · refine Obl.guarded rfl _ rfl 10 true 138 rfl rfl [33, 36, 39, 32, 10] (by kernel_rfl) (fun a W hF hC hD => hD.2.2.2.2.1) fun a W hF hC hD K hK => ?_
    obtain ⟨c1, c2, c3⟩ := hC
    have e161 : a.tmps.getD 161 undef = .pointer (some ⟨tb, 0, none⟩) := hD.1
    have e164 : a.tmps.getD 164 undef = .agg (n2 A.a.a).toArray := hD.2.1
    have e167 : a.tmps.getD 167 undef = .agg (n2 C.a.a).toArray := hD.2.2.1
    clear hF hD
    exact wp_callV #[a.tmps.getD 161 undef, a.tmps.getD 164 undef, a.tmps.getD 167 undef] #[.pointer (some ⟨tb, 0, none⟩), .agg (n2 A.a.a).toArray, .agg (n2 C.a.a).toArray] (.agg (n2 (o2 P (Z2.mul (i2 A.a.a) (i2 C.a.a)))).toArray) (by kernel_rfl) (by rw [e161, e164, e167]) (wmul2 A.a.a C.a.a c2 hA.out.1.1 hC.out.1.1) (fun w' hb => hK _ _ rfl hb)
  · refine Obl.guarded rfl _ rfl 10 true 138 rfl rfl [24, 32, 40, 40, 10] (by kernel_rfl) (fun a W hF hC hD => hD.2.2.2.2.1) fun a W hF hC hD K hK => ?_
    obtain ⟨c1, c2, c3⟩ := hC
    have e152 : a.tmps.getD 152 undef = .pointer (some ⟨tb, 0, none⟩) := hD.1
    have e160 : a.tmps.getD 160 undef = .agg (n2 (o2 P (Z2.mul (i2 A.a.a) (i2 B.a.a)))).toArray := hD.2.1
    have e168 : a.tmps.getD 168 undef = .agg (n2 (o2 P (Z2.mul (i2 A.a.a) (i2 C.a.a)))).toArray := hD.2.2.1
    clear hF hD
    exact wp_callV #[a.tmps.getD 152 undef, a.tmps.getD 160 undef, a.tmps.getD 168 undef] #[.pointer (some ⟨tb, 0, none⟩), .agg (n2 (o2 P (Z2.mul (i2 A.a.a) (i2 B.a.a)))).toArray, .agg (n2 (o2 P (Z2.mul (i2 A.a.a) (i2 C.a.a)))).toArray] (.agg (n2 (o2 P (Z2.add (i2 (o2 P (Z2.mul (i2 A.a.a) (i2 B.a.a)))) (i2 (o2 P (Z2.mul (i2 A.a.a) (i2 C.a.a))))))).toArray) (by kernel_rfl) (by rw [e152, e160, e168]) (wadd2 (o2 P (Z2.mul (i2 A.a.a) (i2 B.a.a))) (o2 P (Z2.mul (i2 A.a.a) (i2 C.a.a))) c2 (o2ok hP.out _) (o2ok hP.out _)) (fun w' hb => hK _ _ rfl hb)
  · refine Obl.guarded rfl _ rfl 10 true 138 rfl rfl [23, 41, 10] (by kernel_rfl) (fun a W hF hC hD => hD.2.2.1) fun a W hF hC hD K hK => ?_
    have e151 : a.tmps.getD 151 undef = .agg (n2 (o2 P (Z2.mul (i2 A.a.a) (i2 (o2 P (Z2.add (i2 B.a.a) (i2 C.a.a))))))).toArray := hD.1
    have e169 : a.tmps.getD 169 undef = .agg (n2 (o2 P (Z2.add (i2 (o2 P (Z2.mul (i2 A.a.a) (i2 B.a.a)))) (i2 (o2 P (Z2.mul (i2 A.a.a) (i2 C.a.a))))))).toArray := hD.2.1
    clear hF hD hC
    exact wp_eqlA (xs := n2 (o2 P (Z2.mul (i2 A.a.a) (i2 (o2 P (Z2.add (i2 B.a.a) (i2 C.a.a))))))) (ys := n2 (o2 P (Z2.add (i2 (o2 P (Z2.mul (i2 A.a.a) (i2 B.a.a)))) (i2 (o2 P (Z2.mul (i2 A.a.a) (i2 C.a.a))))))) (.tmp 151) (.tmp 169) _ _ rfl e151 e169 Try.egF2 (b := true) ((eqF2 9997 (o2 P (Z2.mul (i2 A.a.a) (i2 (o2 P (Z2.add (i2 B.a.a) (i2 C.a.a)))))) (o2 P (Z2.add (i2 (o2 P (Z2.mul (i2 A.a.a) (i2 B.a.a)))) (i2 (o2 P (Z2.mul (i2 A.a.a) (i2 C.a.a))))))).trans (congrArg (fun b => Result.ok b W) (q2_of (law_dist hP.out.1 _ _ _)))) (hK _ _ rfl (Below.refl _ _))
  · refine Obl.plain rfl _ rfl rfl [10, 42] (by kernel_rfl) fun a W hF hC hD K hK => ?_
    have e138 : a.tmps.getD 138 undef = .bool true := hD.1
    have e170 : a.tmps.getD 170 undef = .bool true := hD.2.1
    clear hF hD hC
    exact wp_pick (.tmp 138) (.tmp 170) (.const (.bool false)) rfl (b := true) e138 e170 (hK _ _ rfl (Below.refl _ _))
  · refine Obl.plain rfl _ rfl rfl [43, 41, 0, 1, 2, 3, 4, 5, 6, 7, 8, 9, 10, 11, 12, 13, 14, 15, 16, 17, 18, 19, 20, 21, 22, 23, 24, 25, 26, 27, 28, 29, 30, 31, 32, 33, 34, 35, 36, 37, 38, 39, 40, 41, 42, 43] (by kernel_rfl) fun a W hF hC hD K hK => ?_
    have e171 : a.tmps.getD 171 undef = .bool true := hD.1
    clear hF hD hC
    exact wp_assign (.tmp 171) rfl e171 (hK _ _ rfl (Below.refl _ _))
  rintro w10 hB hC _ rfl _ rfl _ rfl _ rfl _ rfl _ rfl _ rfl _ rfl _ rfl _ rfl _ rfl _ rfl _ rfl _ rfl _ rfl _ rfl _ rfl _ rfl _ rfl _ rfl _ rfl _ rfl _ rfl _ rfl _ rfl _ rfl _ rfl _ rfl _ rfl _ rfl _ rfl _ rfl _ rfl _ rfl _ rfl _ rfl _ rfl _ rfl _ rfl _ rfl _ rfl _ rfl _ rfl _ rfl _ rfl
  change Below _ _ _ at hB
  change wpList _ _ _ _ _ _
  simp only [List.drop_succ_cons, List.drop_zero, Act.put, List.setIfInBounds_toArray, List.set_cons_zero, List.set_cons_succ]
  have hS10 := hide (hS9.out.next hB)
  clear hB hC hS9
  go_wp2_with fail
  go_ret
  exact ⟨rfl, below_next hB0.out hS10.out.bl⟩
end Go.Proofs.Ytincemkjdgbnnaa
