/- Walks: package field: Lesser, Sqrt; the reference's field: Square. -/
import Derived.Test.YtincemkjdgbnnaaRoS
import Derived.Test.YtincemkjdgbnnaaRefH
set_option linter.unusedVariables false
set_option linter.unusedSimpArgs false
namespace Go.Proofs.Ytincemkjdgbnnaa
open Go.RowKit Lm

/-- the lesser one of a number and what is missing to 0. -/
def lsn (P x : Nat) : Nat := if ng P x % P < x then ng P x % P else x
theorem cmpI_lt {x y : Nat} (h : x < y) : cmpI x y < 0 := by unfold cmpI; simp [h]
theorem cmpI_ge {x y : Nat} (h : ¬ x < y) : ¬ cmpI x y < 0 := by unfold cmpI; rw [if_neg h]; split <;> simp
theorem cmpI_eq0 (x y : Nat) : (cmpI x y == 0) = decide (x = y) := by
  unfold cmpI
  by_cases h1 : x < y
  · rw [if_pos h1, decide_eq_false (by omega)]; rfl
  · rw [if_neg h1]
    by_cases h2 : x = y
    · rw [if_pos h2, decide_eq_true h2]; rfl
    · rw [if_neg h2, decide_eq_false h2]; rfl

set_option maxRecDepth 100000 in
set_option maxHeartbeats 1600000 in
theorem flesser_c (b bm P n size x : Nat) (w : World) (hF : FQ w b bm P n size) (hx : x < B64 ^ 6) :
    Calls Try.prog 80 #[.pointer (some ⟨b, 0, none⟩), vE x] w fun e w' => e = .returned (vE (lsn P x)) ∧ Below w.heap.size w w' := by
  obtain ⟨y, hy⟩ : ∃ y, y = ng P x % P := ⟨_, rfl⟩
  have hl : lsn P x = if y < x then y else x := by rw [hy]; rfl
  have hy6 := hide (show y < B64 ^ 6 by rw [hy]; exact Nat.lt_trans (Nat.mod_lt _ hF.pos) hF.lt6)
  have Hneg : Hid (∀ W, FQ W b bm P n size → Calls Try.prog 36 #[.pointer (some ⟨b, 0, none⟩), vE x] W fun e w' => e = .returned (vE y) ∧ Below W.heap.size W w') := hide fun W h => by
    rw [hy]; exact fneg_c b bm P n size x W h hx
  obtain ⟨r, hr⟩ : ∃ r, r = lsn P x := ⟨_, rfl⟩
  rw [← hr] at hl ⊢
  replace hl := hide hl
  replace hr := hide hr
  replace hy := hide hy
  have hx := hide hx
  have hF := hide hF
  have hS0 := hide (St.start w)
  go_enter Try.func80, Try.ntmps80
  go_upto_region 2 with (first
    | ((with_reducible refine boxS (o := ⟨some 3, _, _, _, _, _⟩) ?_ 24 (.tmp 1) ?_ hS0.out (ve x) ?_ ?_); rfl; rfl; rfl; intro w1 b3 hS1; replace hS1 := hide hS1)
    | ((with_reducible refine allocS (o := ⟨some 4, _, _, _, _, _⟩) ?_ 24 ?_ hS1.out (ve 0) Try.zr24 ?_); rfl; rfl; intro w2 b4 hS2; replace hS2 := hide hS2)
    | ((with_reducible refine loadSN (o := ⟨some 7, _, _, _, _, _⟩) ?_ (.tmp 3) ?_ hS2.out 0 (c := ⟨b3, 24, ve x⟩) ?_ ?_ x ?_ ?_); rfl; rfl; rfl; rfl; rfl)
    | (go_at_call 36; refine (Hneg.out w2 (hF.out.next hS2.out.bl)).mono ?_; rintro e w3 ⟨rfl, hb3⟩; have hS3 := hide (hS2.out.next hb3); clear hb3)
    | ((with_reducible refine allocS (o := ⟨some 5, _, _, _, _, _⟩) ?_ 24 ?_ hS3.out (ve 0) Try.zr24 ?_); rfl; rfl; intro w4 b5 hS4; replace hS4 := hide hS4)
    | ((with_reducible refine storeWS (n := 6) (o := ⟨none, _, _, _, _, _⟩) ?_ 24 (.tmp 5) (.tmp 8) ?_ hS4.out 2 (c := ⟨b5, 24, ve 0⟩) ?_ ?_ (ve y) ?_ ?_ ?_ ?_ Try.sz24 ?_); rfl; rfl; rfl; rfl; rfl; rfl; rfl; rfl; intro w5 hS5 hO; replace hS5 : Hid (St w w5 [⟨b3, 24, ve x⟩, ⟨b4, 24, ve 0⟩, ⟨b5, 24, ve y⟩]) := hS5))
  clear hO hS0 hS1 hS2 hS3 hS4
  refine region_do 4 15 [fun v _ => v = .slice (some ⟨b5, 0, none⟩) 6 6, fun v _ => v = .slice (some ⟨b3, 0, none⟩) 6 6, fun v _ => v = .int .i64 (cmpI y x), fun v _ => v = .bool (decide (cmpI y x < 0))]
    [(5, .pointer (some ⟨b5, 0, none⟩)), (3, .pointer (some ⟨b3, 0, none⟩))] (fun w' => St w w' [⟨b3, 24, ve x⟩, ⟨b4, 24, ve 0⟩, ⟨b5, 24, ve y⟩]) (fun w' => True) 999 none (by kernel_rfl) (by kernel_rfl) rfl rfl
    (.cons (Fact.eq _) rfl (.cons (Fact.eq _) rfl (.cons (Fact.eq _) rfl (.cons (Fact.eq _) rfl (.nil _))))) (fun w' h => hS5.out.next h) (fun w' h => trivial) (by kernel_rfl) (by exact ⟨rfl, rfl, trivial⟩) (.cons ?_ (.cons ?_ (.cons ?_ (.cons ?_ .nil)))) ?_
  · refine Obl.plain rfl _ rfl rfl [] (by kernel_rfl) fun a W hF hC hD K hK => ?_
    have e5 : a.tmps.getD 5 undef = .pointer (some ⟨b5, 0, none⟩) := hF.1
    clear hF hD hC
    go_simp
    exact hK _ _ rfl (Below.refl _ _)
  · refine Obl.plain rfl _ rfl rfl [] (by kernel_rfl) fun a W hF hC hD K hK => ?_
    have e3 : a.tmps.getD 3 undef = .pointer (some ⟨b3, 0, none⟩) := hF.2.1
    clear hF hD hC
    go_simp
    exact hK _ _ rfl (Below.refl _ _)
  · refine Obl.plain rfl _ rfl rfl [0, 1] (by kernel_rfl) fun a W hF hC hD K hK => ?_
    have c1 := hC
    have e9 : a.tmps.getD 9 undef = .slice (some ⟨b5, 0, none⟩) 6 6 := hD.1
    have e10 : a.tmps.getD 10 undef = .slice (some ⟨b3, 0, none⟩) 6 6 := hD.2.1
    clear hF hD
    go_simp
    refine (cmp_ve (c1.vb 2 _ rfl) (c1.vb 0 _ rfl) hy6.out hx.out).mono ?_
    rintro e W' ⟨rfl, hb⟩
    exact hK _ _ rfl hb
  · refine Obl.plain rfl _ rfl rfl [2] (by kernel_rfl) fun a W hF hC hD K hK => ?_
    have e11 : a.tmps.getD 11 undef = .int .i64 (cmpI y x) := hD.1
    clear hF hD hC
    go_simp
    exact hK _ _ rfl (Below.refl _ _)
  rintro w6 hB6 hC6 _ rfl _ rfl _ rfl _ rfl
  change Below _ _ _ at hB6
  change wpList _ _ _ _ _ _
  simp only [List.drop_succ_cons, List.drop_zero, Act.put, List.setIfInBounds_toArray, List.set_cons_zero, List.set_cons_succ]
  have hS6 := hide (hS5.out.next hB6)
  clear hB6 hC6 hS5
  by_cases hlt : y < x
  · rw [show decide (cmpI y x < 0) = true from decide_eq_true (cmpI_lt hlt)]
    obtain rfl : r = y := by rw [hl.out, if_pos hlt]
    replace hlt := hide hlt
    go_wp2_with (first
      | ((with_reducible refine loadSN (o := ⟨some 13, _, _, _, _, _⟩) ?_ (.tmp 5) ?_ hS6.out 2 (c := ⟨b5, 24, ve r⟩) ?_ ?_ r ?_ ?_); rfl; rfl; rfl; rfl; rfl)
      | ((with_reducible refine storeWS (n := 6) (o := ⟨none, _, _, _, _, _⟩) ?_ 24 (.tmp 4) (.tmp 13) ?_ hS6.out 1 (c := ⟨b4, 24, ve 0⟩) ?_ ?_ (ve r) ?_ ?_ ?_ ?_ Try.sz24 ?_); rfl; rfl; rfl; rfl; rfl; rfl; rfl; rfl; intro w7 hS7 hO))
    exact retT 24 rfl rfl (hS7.vb 1 _ rfl) Try.underlying24 rfl Try.sz24 rfl ⟨rfl, hS7.bl⟩
  · rw [show decide (cmpI y x < 0) = false from decide_eq_false (cmpI_ge hlt)]
    obtain rfl : r = x := by rw [hl.out, if_neg hlt]
    replace hlt := hide hlt
    go_wp2_with (first
      | ((with_reducible refine loadSN (o := ⟨some 14, _, _, _, _, _⟩) ?_ (.tmp 3) ?_ hS6.out 0 (c := ⟨b3, 24, ve r⟩) ?_ ?_ r ?_ ?_); rfl; rfl; rfl; rfl; rfl)
      | ((with_reducible refine storeWS (n := 6) (o := ⟨none, _, _, _, _, _⟩) ?_ 24 (.tmp 4) (.tmp 14) ?_ hS6.out 1 (c := ⟨b4, 24, ve 0⟩) ?_ ?_ (ve r) ?_ ?_ ?_ ?_ Try.sz24 ?_); rfl; rfl; rfl; rfl; rfl; rfl; rfl; rfl; intro w7 hS7 hO))
    exact retT 24 rfl rfl (hS7.vb 1 _ rfl) Try.underlying24 rfl Try.sz24 rfl ⟨rfl, hS7.bl⟩

set_option maxRecDepth 100000 in
set_option maxHeartbeats 1600000 in
theorem fsqrt_r (b bm P n size x R : Nat) (w : World) (hF : FQ w b bm P n size) (hx : x < B64 ^ 6) (hR : ∀ (bm n : Nat) (w : World), FB w bm P n → Calls Try.prog 79 #[.pointer (some ⟨bm, 0, none⟩), vE (mf P n x)] w fun e w' => e = .returned (.tuple #[vE (mf P n R), .bool (sqk P x)]) ∧ Below w.heap.size w w') :
    Calls Try.prog 39 #[.pointer (some ⟨b, 0, none⟩), vE x] w fun e w' => e = .returned (.tuple #[vE (lsn P (R % P)), .bool (sqk P x)]) ∧ Below w.heap.size w w' := by
  generalize sqk P x = q at *
  have hR := hide hR
  have hx := hide hx
  have hF := hide hF
  have hRP := hide (Nat.lt_trans (Nat.mod_lt R hF.out.pos) hF.out.lt6)
  have hS0 := hide (St.start w)
  go_enter Try.func39, Try.ntmps39
  go_upto_region 1 with (first
    | ((with_reducible refine boxS (o := ⟨some 3, _, _, _, _, _⟩) ?_ 24 (.tmp 1) ?_ hS0.out (ve x) ?_ ?_); rfl; rfl; rfl; intro w1 b3 hS1; replace hS1 := hide hS1)
    | ((with_reducible refine allocS (o := ⟨some 4, _, _, _, _, _⟩) ?_ 24 ?_ hS1.out (ve 0) Try.zr24 ?_); rfl; rfl; intro w2 b4 hS2; replace hS2 : Hid (St w w2 [⟨b3, 24, ve x⟩, ⟨b4, 24, ve 0⟩]) := hS2))
  have hF2 := hide (hF.out.next hS2.out.bl)
  refine region_loc 13 25 [fun v _ => v = .pointer (some ⟨b, 0, none⟩), fun v _ => v = .pointer (some ⟨b, 0, none⟩), fun v _ => v = .pointer (some ⟨b, 0, none⟩), fun v _ => v = .pointer (some ⟨bm, 0, none⟩), fun v _ => v = .pointer (some ⟨b, 0, none⟩), fun v _ => v = vE (x), fun v _ => v = vE (mf P n x), fun v _ => v = .tuple #[vE (mf P n R), .bool q], fun v _ => v = .tuple #[vE (mf P n R), .bool q], fun v _ => v = vE (mf P n R), fun v _ => v = .bool q, fun _ _ => True, fun _ _ => True]
    [(0, .pointer (some ⟨b, 0, none⟩)), (3, .pointer (some ⟨b3, 0, none⟩))] (fun w' => St w w' [⟨b3, 24, ve x⟩, ⟨b4, 24, ve 0⟩] ∧ FQ w' b bm P n size) [11] 98 (ve 0) [(12, 11, ve (mf P n R))] (by kernel_rfl) (by kernel_rfl) rfl rfl
    (.cons (factB_eq _) (.cons (factB_eq _) (.cons (factB_eq _) (.cons (factB_eq _) (.cons (factB_eq _) (.cons (factB_eq _) (.cons (factB_eq _) (.cons (factB_eq _) (.cons (factB_eq _) (.cons (factB_eq _) (.cons (factB_eq _) (.cons (fun _ _ _ _ _ _ => trivial) (.cons (fun _ _ _ _ _ _ => trivial) .nil))))))))))))) (by kernel_rfl) (fun w' h => ⟨hS2.out.next h, hF2.out.next h⟩) (by kernel_rfl) (by exact ⟨rfl, rfl, trivial⟩) (by kernel_rfl) (allC ⟨⟨_, _, rfl, rfl, rfl, rfl⟩⟩ allN) (allC (fun _ _ => trivial) allN) (by rfl) (allC ⟨⟨_, 6, 17, 9, rfl, rfl, rfl, rfl, rfl, rfl, by kernel_rfl, by kernel_rfl, fun v w h => h⟩⟩ allN) (allC (fun _ _ => trivial) allN) (show ([12] : List Nat).Nodup by decide) Try.zr98 Try.sz98 (.cons (fun _ _ => ?_) (.cons (fun _ _ => ?_) (.cons (fun _ _ => ?_) (.cons (fun _ _ => ?_) (.cons (fun _ _ => ?_) (.cons (fun _ _ => ?_) (.cons (fun _ _ => ?_) (.cons (fun _ _ => ?_) (.cons (fun _ _ => ?_) (.cons (fun _ _ => ?_) (.cons (fun _ _ => ?_) (.cons (fun h _ => absurd h (by decide)) (.cons (fun _ h => absurd (show true = false from h) (by decide)) .nil))))))))))))) ?_
  · refine Obl.plain rfl _ rfl rfl [] (by kernel_rfl) fun a W hF hC hD K hK => ?_
    have e0 : a.tmps.getD 0 undef = .pointer (some ⟨b, 0, none⟩) := hF.1
    clear hF hD hC
    go_simp
    exact hK _ _ rfl (Below.refl _ _)
  · refine Obl.plain rfl _ rfl rfl [0] (by kernel_rfl) fun a W hF hC hD K hK => ?_
    have e9 : a.tmps.getD 9 undef = .pointer (some ⟨b, 0, none⟩) := hD.1
    clear hF hD hC
    go_simp
    exact hK _ _ rfl (Below.refl _ _)
  · refine Obl.plain rfl _ rfl rfl [1] (by kernel_rfl) fun a W hF hC hD K hK => ?_
    have e10 : a.tmps.getD 10 undef = .pointer (some ⟨b, 0, none⟩) := hD.1
    clear hF hD hC
    go_simp
    exact hK _ _ rfl (Below.refl _ _)
  · refine Obl.plain rfl _ rfl rfl [2] (by kernel_rfl) fun a W hF hC hD K hK => ?_
    obtain ⟨c1, c2⟩ := hC
    have e11 : a.tmps.getD 11 undef = .pointer (some ⟨b, 0, none⟩) := hD.1
    clear hF hD
    have f0 := c2.cellM
    go_simp
    exact hK _ _ rfl (Below.refl _ _)
  · refine Obl.plain rfl _ rfl rfl [] (by kernel_rfl) fun a W hF hC hD K hK => ?_
    have e0 : a.tmps.getD 0 undef = .pointer (some ⟨b, 0, none⟩) := hF.1
    clear hF hD hC
    go_simp
    exact hK _ _ rfl (Below.refl _ _)
  · refine Obl.plain rfl _ rfl rfl [] (by kernel_rfl) fun a W hF hC hD K hK => ?_
    obtain ⟨c1, c2⟩ := hC
    have e3 : a.tmps.getD 3 undef = .pointer (some ⟨b3, 0, none⟩) := hF.2.1
    clear hF hD
    exact wpE _ (.tmp 3) rfl (c1.vb 0 _ rfl) e3 Try.underlying24 rfl Try.sz24 (hK _ _ rfl (Below.refl _ _))
  · refine Obl.plain rfl _ rfl rfl [4, 5] (by kernel_rfl) fun a W hF hC hD K hK => ?_
    obtain ⟨c1, c2⟩ := hC
    have e13 : a.tmps.getD 13 undef = .pointer (some ⟨b, 0, none⟩) := hD.1
    have e14 : a.tmps.getD 14 undef = vE (x) := hD.2.1
    clear hF hD
    go_simp
    refine (fin_c b bm P n size x W c2 hx.out).mono ?_
    rintro e W' ⟨rfl, hb⟩
    exact hK _ _ rfl hb
  · refine Obl.plain rfl _ rfl rfl [3, 6, 6] (by kernel_rfl) fun a W hF hC hD K hK => ?_
    obtain ⟨c1, c2⟩ := hC
    have e12 : a.tmps.getD 12 undef = .pointer (some ⟨bm, 0, none⟩) := hD.1
    have e15 : a.tmps.getD 15 undef = vE (mf P n x) := hD.2.1
    clear hF hD
    go_simp
    refine (hR.out bm n W c2.fb).mono ?_
    rintro e W' ⟨rfl, hb⟩
    exact hK _ _ rfl hb
  · refine Obl.plain rfl _ rfl rfl [7] (by kernel_rfl) fun a W hF hC hD K hK => ?_
    have e16 : a.tmps.getD 16 undef = .tuple #[vE (mf P n R), .bool q] := hD.1
    clear hF hD hC
    go_simp
    exact hK _ _ rfl (Below.refl _ _)
  · refine Obl.plain rfl _ rfl rfl [8] (by kernel_rfl) fun a W hF hC hD K hK => ?_
    have e8 : a.tmps.getD 8 undef = .tuple #[vE (mf P n R), .bool q] := hD.1
    clear hF hD hC
    go_simp
    exact hK _ _ rfl (Below.refl _ _)
  · refine Obl.plain rfl _ rfl rfl [8] (by kernel_rfl) fun a W hF hC hD K hK => ?_
    have e8 : a.tmps.getD 8 undef = .tuple #[vE (mf P n R), .bool q] := hD.1
    clear hF hD hC
    go_simp
    exact hK _ _ rfl (Below.refl _ _)
  rintro w6 bs hB6 hC6 hAl hDl hSl _ rfl _ rfl _ rfl _ rfl _ rfl _ rfl _ rfl _ rfl _ rfl _ rfl _ rfl _ rfl _ -
  obtain ⟨hlb6, Lb6, hvb6, hnb6⟩ := hAl 11 (by decide)
  have hsb6 := hSl _ (.head _)
  clear hAl hDl hSl
  change _ ≤ bs 11 at hlb6
  change VB _ (bs 11) _ _ at hsb6
  change wpList _ _ _ _ _ _
  simp only [List.drop_succ_cons, List.drop_zero, Act.put, List.setIfInBounds_toArray, List.set_cons_zero, List.set_cons_succ]
  generalize bs 11 = b6 at *
  clear bs
  have hS6 := hide (hS2.out.pushL hB6 [⟨b6, 98, ve (mf P n R)⟩] ⟨hlb6, hsb6, (fun d hd => by cases hd), trivial⟩)
  have hF6 := hide (hF.out.next hS6.out.bl)
  clear hB6 hC6 hlb6 hsb6 hvb6 hnb6 hS2 hS1 hS0 hF2
  go_wp2_with (first
    | ((with_reducible refine loadSE (o := ⟨some 21, _, _, _, _, _⟩) ?_ (.tmp 6) ?_ hS6.out 2 (c := ⟨b6, 98, ve (mf P n R)⟩) ?_ ?_ (mf P n R) ?_ ?_); rfl; rfl; rfl; rfl; rfl)
    | (go_at_call 80; refine (flesser_c b bm P n size (R % P) w7 (hF6.out.next hb7) hRP.out).mono ?_; rintro e w8 ⟨rfl, hb8⟩; have hS8 := hide ((hS6.out.next hb7).next hb8); clear hb8)
    | (go_at_call 63; refine (fout_c b bm P n size R w6 hF6.out).mono ?_; rintro e w7 ⟨rfl, hb7⟩)
    | ((with_reducible refine storeWS (n := 6) (o := ⟨none, _, _, _, _, _⟩) ?_ 24 (.tmp 4) (.tmp 23) ?_ hS8.out 1 (c := ⟨b4, 24, ve 0⟩) ?_ ?_ (ve (lsn P (R % P))) ?_ ?_ ?_ ?_ Try.sz24 ?_); rfl; rfl; rfl; rfl; rfl; rfl; rfl; rfl; intro w9 hS9 hO))
  exact retTT 24 rfl rfl rfl (hS9.vb 1 _ rfl) Try.underlying24 rfl Try.sz24 rfl ⟨rfl, hS9.bl⟩
end Go.Proofs.Ytincemkjdgbnnaa
