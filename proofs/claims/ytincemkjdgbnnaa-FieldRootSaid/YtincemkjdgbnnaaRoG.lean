/- Walks: the reference's field: Square. -/
import Derived.Test.YtincemkjdgbnnaaRoF
import Derived.Test.YtincemkjdgbnnaaLawF
set_option linter.unusedVariables false
set_option linter.unusedSimpArgs false
namespace Go.Proofs.Ytincemkjdgbnnaa
open Go.RowKit Lm

theorem sqk_zero (P : Nat) : sqk P 0 = true := decide_eq_true (.inl (Nat.zero_mod P))
theorem sqk_val {P x : Nat} (hx : x < P) (h0 : x ≠ 0) (hodd : P % 2 = 1) : sqk P x = decide (x ^ (P / 2 ^ 1) % P = 1) := by
  unfold sqk
  rw [Nat.mod_eq_of_lt hx, Nat.pow_one, show (P - 1) / 2 = P / 2 by omega]
  exact decide_eq_decide.2 ⟨fun h => h.resolve_left h0, .inr⟩

set_option maxRecDepth 100000 in
set_option maxHeartbeats 3200000 in
theorem rsquare_any (Af A : Option Addr) (P cf sz c x : Nat) (w : World) (hrP : Rd w .u32 Af (digs B32 P)) (hcf : (digs B32 P).length ≤ cf) (hP12 : P < B32 ^ 12)
    (hr : Rd w .u32 A (digs B32 x)) (hc : (digs B32 x).length ≤ c) (hx : x < P) (hodd : P % 2 = 1) :
    Calls Try.prog 40 #[.agg (vF Af P cf sz).toArray, .slice A (digs B32 x).length c] w fun e w' => e = .returned (.bool (sqk P x)) ∧ Below w.heap.size w w' := by
  have hP0 : 0 < P := by omega
  have hxl := hide (b32len (n := x) (k := 12) (Nat.lt_trans hx hP12))
  have hPl := hide (b32len hP12)
  have hEl := hide (b32len (n := P / 2 ^ 1) (k := 12) (Nat.lt_of_le_of_lt (Nat.div_le_self _ _) hP12))
  have Hp0 := hide hP0
  have HP12 := hide hP12
  have hrP := hide hrP
  have hr := hide hr
  have hc := hide hc
  have hcf := hide hcf
  have hS0 := hide (St.start w)
  by_cases h0 : x = 0
  · subst h0
    rw [sqk_zero]
    have hl0 : (digs B32 0).length = 0 := by rw [digs_zero]; rfl
    have hl0 := hide hl0
    obtain ⟨L, hL⟩ : ∃ L, L = (digs B32 0).length := ⟨_, rfl⟩
    rw [← hL] at hc hl0 ⊢
    have hl1 : L = 0 := hl0.out
    subst hl1
    replace hL := hide hL
    go_enter Try.func40, Try.ntmps40
    go_upto_region 1 with ((with_reducible refine boxS (o := ⟨some 2, _, _, _, _, _⟩) ?_ 32 (.tmp 0) ?_ hS0.out (vF Af P cf sz) ?_ ?_); rfl; rfl; rfl; intro w1 b2 hS1; replace hS1 : Hid (St w w1 [⟨b2, 32, vF Af P cf sz⟩]) := hS1)
    refine region_do 14 19 [fun v _ => v = .slice A 0 c, fun v _ => v = .int .i64 0, fun v _ => v = .bool true, fun v _ => v = .bool true, fun v _ => v = undef, fun v _ => v = undef, fun v _ => v = undef, fun v _ => v = undef, fun v _ => v = undef, fun v _ => v = undef, fun v _ => v = undef, fun v _ => v = undef, fun v _ => v = undef, fun v _ => v = .bool true]
      [(1, .slice A 0 c), (2, .pointer (some ⟨b2, 0, none⟩))] (fun w' => St w w' [⟨b2, 32, vF Af P cf sz⟩]) (fun w' => True) 999 none (by kernel_rfl) (by kernel_rfl) rfl rfl
      (.cons (Fact.eq _) rfl (.cons (Fact.eq _) rfl (.cons (Fact.eq _) rfl (.cons (Fact.eq _) rfl (.cons (Fact.eq _) rfl (.cons (Fact.eq _) rfl (.cons (Fact.eq _) rfl (.cons (Fact.eq _) rfl (.cons (Fact.eq _) rfl (.cons (Fact.eq _) rfl (.cons (Fact.eq _) rfl (.cons (Fact.eq _) rfl (.cons (Fact.eq _) rfl (.cons (Fact.eq _) rfl (.nil _))))))))))))))) (fun w' h => hS1.out.next h) (fun w' h => trivial) (by kernel_rfl) (by exact ⟨rfl, rfl, trivial⟩) (.cons ?_ (.cons ?_ (.cons ?_ (.cons ?_ (.cons ?_ (.cons ?_ (.cons ?_ (.cons ?_ (.cons ?_ (.cons ?_ (.cons ?_ (.cons ?_ (.cons ?_ (.cons ?_ .nil)))))))))))))) ?_
    · refine Obl.plain rfl _ rfl rfl [] (by kernel_rfl) fun a W hF hC hD K hK => ?_
      have e1 : a.tmps.getD 1 undef = .slice A 0 c := hF.1
      clear hF hD hC
      go_simp
      exact hK _ _ rfl (Below.refl _ _)
    · refine Obl.plain rfl _ rfl rfl [0] (by kernel_rfl) fun a W hF hC hD K hK => ?_
      have e5 : a.tmps.getD 5 undef = .slice A 0 c := hD.1
      clear hF hD hC
      go_simp
      exact hK _ _ rfl (Below.refl _ _)
    · refine Obl.plain rfl _ rfl rfl [1] (by kernel_rfl) fun a W hF hC hD K hK => ?_
      have e6 : a.tmps.getD 6 undef = .int .i64 0 := hD.1
      clear hF hD hC
      go_simp
      exact hK _ _ rfl (Below.refl _ _)
    · refine Obl.plain rfl _ rfl rfl [2] (by kernel_rfl) fun a W hF hC hD K hK => ?_
      have e7 : a.tmps.getD 7 undef = .bool true := hD.1
      clear hF hD hC
      go_simp
      exact hK _ _ rfl (Below.refl _ _)
    · exact Obl.skipped rfl _ rfl 3 false 8 rfl rfl [3] (by kernel_rfl) (fun a W hF hC hD => hD.1) (fun _ => rfl)
    · exact Obl.skipped rfl _ rfl 3 false 8 rfl rfl [3] (by kernel_rfl) (fun a W hF hC hD => hD.1) (fun _ => rfl)
    · exact Obl.skipped rfl _ rfl 3 false 8 rfl rfl [3] (by kernel_rfl) (fun a W hF hC hD => hD.1) (fun _ => rfl)
    · exact Obl.skipped rfl _ rfl 3 false 8 rfl rfl [6, 3] (by kernel_rfl) (fun a W hF hC hD => hD.2.1) (fun _ => rfl)
    · exact Obl.skipped rfl _ rfl 3 false 8 rfl rfl [7, 3, 3] (by kernel_rfl) (fun a W hF hC hD => hD.2.1) (fun _ => rfl)
    · exact Obl.skipped rfl _ rfl 3 false 8 rfl rfl [4, 5, 8, 8, 3] (by kernel_rfl) (fun a W hF hC hD => hD.2.2.2.2.1) (fun _ => rfl)
    · exact Obl.skipped rfl _ rfl 3 false 8 rfl rfl [9, 3] (by kernel_rfl) (fun a W hF hC hD => hD.2.1) (fun _ => rfl)
    · exact Obl.skipped rfl _ rfl 3 false 8 rfl rfl [9, 10, 10, 3] (by kernel_rfl) (fun a W hF hC hD => hD.2.2.2.1) (fun _ => rfl)
    · exact Obl.skipped rfl _ rfl 3 false 8 rfl rfl [11, 3] (by kernel_rfl) (fun a W hF hC hD => hD.2.1) (fun _ => rfl)
    · refine Obl.plain rfl _ rfl rfl [3, 12] (by kernel_rfl) fun a W hF hC hD K hK => ?_
      have e8 : a.tmps.getD 8 undef = .bool true := hD.1
      have e17 : a.tmps.getD 17 undef = undef := hD.2.1
      clear hF hD hC
      exact wp_pick (.tmp 8) (.const (.bool true)) (.tmp 17) rfl (b := true) e8 rfl (hK _ _ rfl (Below.refl _ _))
    rintro w2 hB2 hC2 _ rfl _ rfl _ rfl _ rfl _ rfl _ rfl _ rfl _ rfl _ rfl _ rfl _ rfl _ rfl _ rfl _ rfl
    change Below _ _ _ at hB2
    change wpList _ _ _ _ _ _
    simp only [List.drop_succ_cons, List.drop_zero, Act.put, List.setIfInBounds_toArray, List.set_cons_zero, List.set_cons_succ]
    have hB3 := hide (hS1.out.next hB2).bl
    clear hB2 hC2
    go_wp2_with fail
    go_ret
    exact ⟨rfl, hB3.out⟩
  · obtain ⟨q, hq⟩ : ∃ q, q = sqk P x := ⟨_, rfl⟩
    rw [← hq]
    rw [sqk_val hx h0 hodd] at hq
    obtain ⟨Y, hY⟩ : ∃ Y, Y = x ^ (P / 2 ^ 1) % P := ⟨_, rfl⟩
    rw [← hY] at hq
    have hYl := hide (b32len (n := Y) (k := 12) (by rw [hY]; exact Nat.lt_trans (Nat.mod_lt _ hP0) hP12))
    have HShr := hide (fun W h => nshr_any Af cf P 1 W (by decide) h hcf.out (Nat.lt_of_le_of_lt hPl.out (by decide)))
    have HExp : Hid (∀ Ae ce W, Rd W .u32 Af (digs B32 P) → Rd W .u32 A (digs B32 x) → Rd W .u32 Ae (digs B32 (P / 2 ^ 1)) → (digs B32 (P / 2 ^ 1)).length ≤ ce →
      Calls Try.prog 38 #[.agg (vF Af P cf sz).toArray, .slice A (digs B32 x).length c, .slice Ae (digs B32 (P / 2 ^ 1)).length ce] W (RetSl W .u32 (digs B32 Y))) := hide fun Ae ce W h1 h2 h3 h4 => by
      rw [hY]
      exact rexp_any Af A Ae P cf sz c ce x (P / 2 ^ 1) W h1 hcf.out HP12.out Hp0.out h2 hc.out (Nat.le_trans hxl.out (by decide)) h3 h4 (Nat.le_trans hEl.out (by decide))
    have hlne : ((digs B32 x).length : Int) ≠ 0 := by
      intro h
      exact h0 ((digs_eq_nil B32_ge).1 (List.length_eq_zero_iff.1 (by omega)))
    have hcm := cmpI_eq0 Y 1
    rw [← hq] at hcm
    have hcm := hide hcm
    replace hq := hide hq
    replace hY := hide hY
    have hlne := hide hlne
    have h1l := hide (b32len (n := 1) (k := 1) (by decide))
    generalize P / 2 ^ 1 = Ph at *
    go_enter Try.func40, Try.ntmps40
    go_upto_region 1 with ((with_reducible refine boxS (o := ⟨some 2, _, _, _, _, _⟩) ?_ 32 (.tmp 0) ?_ hS0.out (vF Af P cf sz) ?_ ?_); rfl; rfl; rfl; intro w1 b2 hS1; replace hS1 : Hid (St w w1 [⟨b2, 32, vF Af P cf sz⟩]) := hS1)
    refine region_do 14 19 [fun v _ => v = .slice A (digs B32 x).length c, fun v _ => v = .int .i64 ((digs B32 x).length : Int), fun v _ => v = .bool false, fun v _ => v = .bool false, fun v _ => v = .agg (vF Af P cf sz).toArray, fun v _ => v = .slice A (digs B32 x).length c, fun v _ => v = .pointer (some ⟨b2, 0, none⟩), fun v _ => v = .slice Af (digs B32 P).length cf, fun v w => SlIs .u32 (digs B32 Ph) v w, fun v w => SlIs .u32 (digs B32 Y) v w, fun v w => SlIs .u32 (digs B32 1) v w, fun v _ => v = .int .i64 (cmpI Y 1), fun v _ => v = .bool q, fun v _ => v = .bool q]
      [(1, .slice A (digs B32 x).length c), (2, .pointer (some ⟨b2, 0, none⟩))] (fun w' => St w w' [⟨b2, 32, vF Af P cf sz⟩] ∧ Rd w' .u32 Af (digs B32 P) ∧ Rd w' .u32 A (digs B32 x)) (fun w' => True) 999 none (by kernel_rfl) (by kernel_rfl) rfl rfl
      (.cons (Fact.eq _) rfl (.cons (Fact.eq _) rfl (.cons (Fact.eq _) rfl (.cons (Fact.eq _) rfl (.cons (Fact.eq _) rfl (.cons (Fact.eq _) rfl (.cons (Fact.eq _) rfl (.cons (Fact.eq _) rfl (.cons (SlIs.st) rfl (.cons (SlIs.st) rfl (.cons (SlIs.st) rfl (.cons (Fact.eq _) rfl (.cons (Fact.eq _) rfl (.cons (Fact.eq _) rfl (.nil _))))))))))))))) (fun w' h => ⟨hS1.out.next h, hrP.out.below (hS1.out.next h).bl, hr.out.below (hS1.out.next h).bl⟩) (fun w' h => trivial) (by kernel_rfl) (by exact ⟨rfl, rfl, trivial⟩) (.cons ?_ (.cons ?_ (.cons ?_ (.cons ?_ (.cons ?_ (.cons ?_ (.cons ?_ (.cons ?_ (.cons ?_ (.cons ?_ (.cons ?_ (.cons ?_ (.cons ?_ (.cons ?_ .nil)))))))))))))) ?_
    · refine Obl.plain rfl _ rfl rfl [] (by kernel_rfl) fun a W hF hC hD K hK => ?_
      have e1 : a.tmps.getD 1 undef = .slice A (digs B32 x).length c := hF.1
      clear hF hD hC
      go_simp
      exact hK _ _ rfl (Below.refl _ _)
    · refine Obl.plain rfl _ rfl rfl [0] (by kernel_rfl) fun a W hF hC hD K hK => ?_
      have e5 : a.tmps.getD 5 undef = .slice A (digs B32 x).length c := hD.1
      clear hF hD hC
      go_simp
      exact hK _ _ rfl (Below.refl _ _)
    · refine Obl.plain rfl _ rfl rfl [1] (by kernel_rfl) fun a W hF hC hD K hK => ?_
      have e6 : a.tmps.getD 6 undef = .int .i64 ((digs B32 x).length : Int) := hD.1
      clear hF hD hC
      have f0 := beq_eq_false_iff_ne.2 hlne.out
      go_simp
      exact hK _ _ rfl (Below.refl _ _)
    · refine Obl.plain rfl _ rfl rfl [2] (by kernel_rfl) fun a W hF hC hD K hK => ?_
      have e7 : a.tmps.getD 7 undef = .bool false := hD.1
      clear hF hD hC
      go_simp
      exact hK _ _ rfl (Below.refl _ _)
    · refine Obl.guarded rfl _ rfl 3 false 8 rfl rfl [3] (by kernel_rfl) (fun a W hF hC hD => hD.1) fun a W hF hC hD K hK => ?_
      obtain ⟨c1, c2, c3⟩ := hC
      have e2 : a.tmps.getD 2 undef = .pointer (some ⟨b2, 0, none⟩) := hF.2.1
      clear hF hD
      exact wp_load_mid 32 (.tmp 2) rfl b2 0 e2 (vF Af P cf sz) _ (fun j v hj => by rw [Nat.zero_add, (c1.vb 0 _ rfl).cell, hj]) Try.underlying32 rfl (szVF _ _ _ _) (hK _ _ rfl (Below.refl _ _))
    · refine Obl.guarded rfl _ rfl 3 false 8 rfl rfl [3] (by kernel_rfl) (fun a W hF hC hD => hD.1) fun a W hF hC hD K hK => ?_
      have e1 : a.tmps.getD 1 undef = .slice A (digs B32 x).length c := hF.1
      clear hF hD hC
      go_simp
      exact hK _ _ rfl (Below.refl _ _)
    · refine Obl.guarded rfl _ rfl 3 false 8 rfl rfl [3] (by kernel_rfl) (fun a W hF hC hD => hD.1) fun a W hF hC hD K hK => ?_
      have e2 : a.tmps.getD 2 undef = .pointer (some ⟨b2, 0, none⟩) := hF.2.1
      clear hF hD hC
      go_simp
      exact hK _ _ rfl (Below.refl _ _)
    · refine Obl.guarded rfl _ rfl 3 false 8 rfl rfl [6, 3] (by kernel_rfl) (fun a W hF hC hD => hD.2.1) fun a W hF hC hD K hK => ?_
      obtain ⟨c1, c2, c3⟩ := hC
      have e11 : a.tmps.getD 11 undef = .pointer (some ⟨b2, 0, none⟩) := hD.1
      clear hF hD
      have f0 : W.cell? ⟨b2, 0, none⟩ = some (.slice Af (digs B32 P).length cf) := (c1.vb 0 _ rfl).cell 0
      go_simp
      exact hK _ _ rfl (Below.refl _ _)
    · refine Obl.guarded rfl _ rfl 3 false 8 rfl rfl [7, 3, 3] (by kernel_rfl) (fun a W hF hC hD => hD.2.1) fun a W hF hC hD K hK => ?_
      obtain ⟨c1, c2, c3⟩ := hC
      have e12 : a.tmps.getD 12 undef = .slice Af (digs B32 P).length cf := hD.1
      clear hF hD
      exact wp_callS #[a.tmps.getD 12 undef, .int .i64 1] #[.slice Af (digs B32 P).length cf, .int .i64 1] (by kernel_rfl) (by rw [e12]) (HShr.out W c2) (fun v w' h hb => hK _ _ h hb)
    · refine Obl.guarded rfl _ rfl 3 false 8 rfl rfl [4, 5, 8, 8, 3] (by kernel_rfl) (fun a W hF hC hD => hD.2.2.2.2.1) fun a W hF hC hD K hK => ?_
      obtain ⟨c1, c2, c3⟩ := hC
      have e9 : a.tmps.getD 9 undef = .agg (vF Af P cf sz).toArray := hD.1
      have e10 : a.tmps.getD 10 undef = .slice A (digs B32 x).length c := hD.2.1
      have e13 : (fun (v : Value) (w : World) => SlIs .u32 (digs B32 Ph) v w) (a.tmps.getD 13 undef) W := hD.2.2.1
      clear hF hD
      obtain ⟨Aq, cq, qq, hcq, hrq⟩ := e13
      exact wp_callS #[a.tmps.getD 9 undef, a.tmps.getD 10 undef, a.tmps.getD 13 undef] #[.agg (vF Af P cf sz).toArray, .slice A (digs B32 x).length c, .slice Aq (digs B32 Ph).length cq] (by kernel_rfl) (by rw [e9, e10, qq]) (HExp.out Aq cq W c2 c3 hrq hcq) (fun v w' h hb => hK _ _ h hb)
    · refine Obl.guarded rfl _ rfl 3 false 8 rfl rfl [9, 3] (by kernel_rfl) (fun a W hF hC hD => hD.2.1) fun a W hF hC hD K hK => ?_
      clear hF hD hC
      exact wp_callS #[.int .u64 1] #[.int .u64 1] (by kernel_rfl) rfl (nof_any 1 W (by decide)) (fun v w' h hb => hK _ _ h hb)
    · refine Obl.guarded rfl _ rfl 3 false 8 rfl rfl [9, 10, 10, 3] (by kernel_rfl) (fun a W hF hC hD => hD.2.2.2.1) fun a W hF hC hD K hK => ?_
      have e14 : (fun (v : Value) (w : World) => SlIs .u32 (digs B32 Y) v w) (a.tmps.getD 14 undef) W := hD.1
      have e15 : (fun (v : Value) (w : World) => SlIs .u32 (digs B32 1) v w) (a.tmps.getD 15 undef) W := hD.2.1
      clear hF hD hC
      obtain ⟨Aq, cq, qq, hcq, hrq⟩ := e14
      obtain ⟨Ar, cr, qr, hcr, hrr⟩ := e15
      exact wp_callV #[a.tmps.getD 14 undef, a.tmps.getD 15 undef] #[.slice Aq (digs B32 Y).length cq, .slice Ar (digs B32 1).length cr] (.int .i64 (cmpI Y 1)) (by kernel_rfl) (by rw [qq, qr]) (ncmp_any Aq Ar cq cr Y 1 W hrq hrr (Nat.le_trans hYl.out (by decide)) (Nat.le_trans h1l.out (by decide))) (fun w' hb => hK _ _ rfl hb)
    · refine Obl.guarded rfl _ rfl 3 false 8 rfl rfl [11, 3] (by kernel_rfl) (fun a W hF hC hD => hD.2.1) fun a W hF hC hD K hK => ?_
      have e16 : a.tmps.getD 16 undef = .int .i64 (cmpI Y 1) := hD.1
      clear hF hD hC
      have f0 := hcm.out
      go_simp
      exact hK _ _ rfl (Below.refl _ _)
    · refine Obl.plain rfl _ rfl rfl [3, 12] (by kernel_rfl) fun a W hF hC hD K hK => ?_
      have e8 : a.tmps.getD 8 undef = .bool false := hD.1
      have e17 : a.tmps.getD 17 undef = .bool q := hD.2.1
      clear hF hD hC
      exact wp_pick (.tmp 8) (.const (.bool true)) (.tmp 17) rfl (b := false) e8 e17 (hK _ _ rfl (Below.refl _ _))
    rintro w2 hB2 hC2 _ rfl _ rfl _ rfl _ rfl _ rfl _ rfl _ rfl _ rfl v13 g13 v14 g14 v15 g15 _ rfl _ rfl _ rfl
    change Below _ _ _ at hB2
    change wpList _ _ _ _ _ _
    simp only [List.drop_succ_cons, List.drop_zero, Act.put, List.setIfInBounds_toArray, List.set_cons_zero, List.set_cons_succ]
    clear g13 g14 g15 hC2
    have hB3 := hide (hS1.out.next hB2).bl
    clear hB2
    go_wp2_with fail
    go_ret
    exact ⟨rfl, hB3.out⟩
end Go.Proofs.Ytincemkjdgbnnaa
