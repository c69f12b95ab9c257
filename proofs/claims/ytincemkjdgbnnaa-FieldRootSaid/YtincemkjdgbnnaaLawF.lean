/- Walks: FieldInverse. -/
import Derived.Test.YtincemkjdgbnnaaLawE
import Derived.Test.YtincemkjdgbnnaaNatQ
set_option linter.unusedVariables false
set_option linter.unusedSimpArgs false
namespace Go.Proofs.Ytincemkjdgbnnaa
open Go.RowKit Lm

theorem pl_inv1 {P : Nat} (hP : NT.Prime P) (a : Nat) (ha : a % P ≠ 0) : a % P * (a ^ (P - 2) % P) % P = 1 := by
  have h := pl_inv hP a 1 ha
  rw [Nat.one_mul, Nat.mod_eq_of_lt hP.1] at h
  exact h
theorem pl_inv2 {P : Nat} (hP : NT.Prime P) (a : Nat) (ha : a % P ≠ 0) : a ^ (P - 2) % P * a % P = 1 := by
  have h := pl_inv1 hP a ha
  rw [Nat.mod_mul_mod] at h
  rw [Nat.mul_comm]; exact h
theorem kP_gt {k : Int} (hk : isKind k) : 2 < kP k := by
  rcases hk with rfl | rfl | rfl | rfl | rfl | rfl <;> exact of_decide_eq_true (by kernel_rfl)
theorem pl_inv0 {P : Nat} (hP : 2 < P) (a : Nat) (ha : a % P = 0) : a ^ (P - 2) % P = 0 := by
  rw [Nat.pow_mod, ha, Nat.zero_pow (by omega), Nat.zero_mod]

set_option maxRecDepth 100000 in
set_option maxHeartbeats 3200000 in
theorem inverse_c (k : Int) (x y z : Nat) (s : Value) (w : World) (hk : isKind k) (ha : x < B64 ^ 6) :
    Calls Try.prog 5 #[.agg (askCells k x y z s).toArray] w fun e w' => e = .returned (.bool true) ∧ Below w.heap.size w w' := by
  have Hboth := hide (fun W => both_c k W hk)
  have Hp := hide (kprime hk)
  have Hp2 := hide (kP_gt hk)
  have Ha := hide ha
  have hP32 : kP k < B32 ^ 12 := by have := (kok hk).lt; have h6 := (kok hk).n6; exact Nat.lt_of_lt_of_le this (by rw [show B32 ^ 12 = B64 ^ 6 from rfl]; exact Nat.pow_le_pow_right B64_pos h6)
  have HP32 := hide hP32
  have HPl := hide (b32len hP32)
  have HXl := hide (b32len (n := x) (k := 12) (by rw [show B32 ^ 12 = B64 ^ 6 from rfl]; exact ha))
  clear hP32
  generalize kP k = P at *
  generalize kn k = n at *
  generalize ksz k = sz at *
  clear ha hk
  go_enter Try.func5, Try.ntmps5
  go_upto_region 4 with (first
    | ((with_reducible refine wpList_box (o := ⟨some 1, _, _, _, _, _⟩) ?_ 27 (.tmp 0) ?_ (askCells k x y z s) ?_ ?_); rfl; rfl; rfl; intro w1 b1 h1 hv1 h3 h4; have hn1 : New w w1 b1 := ⟨by rw [h1]; exact Nat.le_refl _, by rw [h4]; omega, h3⟩; have r0 : w1.cell? ⟨b1, 0, none⟩ = some (.int .i64 k) := hv1.cell 0; clear h1 h3 h4; replace hv1 := hide hv1; replace hn1 := hide hn1)
    | (go_at_call 12; refine (Hboth.out w1).mono ?_; rintro e w2 ⟨bf, bm, A, cp, rfl, hF, hcp, hr, hB2⟩; replace hF := hide hF; replace hr := hide hr; replace hcp := hide hcp; replace hB2 := hide hB2)
    | ((with_reducible refine wpList_alloc (o := ⟨some 4, _, _, _, _, _⟩) ?_ 32 ?_ [.slice none 0 0, .int .i64 0] Try.zrF ?_); rfl; rfl; intro w4 b4 h1 hv4 h3 h4; have hn4 : New w2 w4 b4 := ⟨by rw [h1]; exact Nat.le_refl _, by rw [h4]; omega, h3⟩; clear h1 h3 h4; replace hn4 := hide hn4)
    | ((with_reducible refine wpList_storeW (o := ⟨none, _, _, _, _, _⟩) ?_ 32 (.tmp 4) (.tmp 15) ?_ ?_ hv4 (vF A P cp sz) ?_ (szVF _ _ _ _) ?_ ?_ ?_); rfl; rfl; rfl; rfl; rfl; rfl; intro w5 hv5 ho5; replace ho5 := hide ho5; replace hv5 := hide hv5))
  clear r0
  have hb14 : b1 < b4 := Nat.lt_of_lt_of_le hn1.out.hi (Nat.le_trans hB2.out.size hn4.out.lo)
  have hB4 := below_next (below_next hn1.out.bl hB2.out) hn4.out.bl
  have HB5 := hide (Only.below hB4 ho5.out (Nat.le_trans hn1.out.lo (Nat.le_of_lt hb14)))
  have HV5 := hide (ho5.out.vb ((hv1.out.next hB2.out).next hn4.out.bl) (Nat.ne_of_lt hb14))
  have hF4 := hF.out.next hn4.out.bl
  have HF5 := hide (hF4.only ho5.out (Nat.ne_of_lt (Nat.lt_of_lt_of_le hF.out.vb.lt hn4.out.lo)) (Nat.ne_of_lt (Nat.lt_of_lt_of_le hF.out.fb.vb.lt hn4.out.lo)))
  have HR5 := hide ((((hr.out.toB).next hn4.out.bl).only ho5.out hn4.out.lo).rd)
  have HS5 := hide hv5.out
  clear hv4 hb14 hF4 hn1 hn4 hB2 hF hv1 hr hv5 ho5 hB4 Hboth
  refine region_do 5 73 [fun v _ => v = .agg (vF A P cp sz).toArray, fun v _ => v = .pointer (some ⟨b1, 1, none⟩), fun v _ => v = vE (x), fun v w => SlIs .u32 (digs B32 x) v w, fun v w => SlIs .u32 (digs B32 (x % P)) v w]
    [(4, .pointer (some ⟨b4, 0, none⟩)), (1, .pointer (some ⟨b1, 0, none⟩))] (fun w' => VB w' b1 27 (askCells k x y z s) ∧ VB w' b4 32 (vF A P cp sz) ∧ Rd w' .u32 A (digs B32 P)) (fun w' => True) 999 none (by kernel_rfl) (by kernel_rfl) rfl rfl
    (.cons (Fact.eq _) rfl (.cons (Fact.eq _) rfl (.cons (Fact.eq _) rfl (.cons (SlIs.st) rfl (.cons (SlIs.st) rfl (.nil _)))))) (fun w' h => ⟨HV5.out.next h, HS5.out.next h, HR5.out.below h⟩) (fun w' h => trivial) (by kernel_rfl) ⟨rfl, rfl, trivial⟩ (.cons ?_ (.cons ?_ (.cons ?_ (.cons ?_ (.cons ?_ .nil))))) ?_
  · refine Obl.plain rfl _ rfl rfl [] (by kernel_rfl) fun a W hF hC hD K hK => ?_
    obtain ⟨c1, c2, c3⟩ := hC
    have e4 : a.tmps.getD 4 undef = .pointer (some ⟨b4, 0, none⟩) := hF.1
    clear hF hD
    exact wp_load_mid 32 (.tmp 4) rfl b4 0 e4 (vF A P cp sz) _ (fun j v hj => by rw [Nat.zero_add, c2.cell, hj]) Try.underlying32 rfl (szVF _ _ _ _) (hK _ _ rfl (Below.refl _ _))
  · refine Obl.plain rfl _ rfl rfl [] (by kernel_rfl) fun a W hF hC hD K hK => ?_
    have e1 : a.tmps.getD 1 undef = .pointer (some ⟨b1, 0, none⟩) := hF.2.1
    clear hF hD hC
    go_simp
    exact hK _ _ rfl (Below.refl _ _)
  · refine Obl.plain rfl _ rfl rfl [1] (by kernel_rfl) fun a W hF hC hD K hK => ?_
    obtain ⟨c1, c2, c3⟩ := hC
    have e22 : a.tmps.getD 22 undef = .pointer (some ⟨b1, 1, none⟩) := hD.1
    clear hF hD
    exact wpAsk (.tmp 22) rfl c1 1 e22 rfl (hK _ _ rfl (Below.refl _ _))
  · refine Obl.plain rfl _ rfl rfl [2] (by kernel_rfl) fun a W hF hC hD K hK => ?_
    have e23 : a.tmps.getD 23 undef = vE (x) := hD.1
    clear hF hD hC
    exact wp_callS #[a.tmps.getD 23 undef] #[vE x] (by kernel_rfl) (by rw [e23]) (rn_any x W Ha.out) (fun v w' h hb => hK _ _ h hb)
  · refine Obl.plain rfl _ rfl rfl [0, 3, 3] (by kernel_rfl) fun a W hF hC hD K hK => ?_
    obtain ⟨c1, c2, c3⟩ := hC
    have e21 : a.tmps.getD 21 undef = .agg (vF A P cp sz).toArray := hD.1
    have e24 : (fun (v : Value) (w : World) => SlIs .u32 (digs B32 x) v w) (a.tmps.getD 24 undef) W := hD.2.1
    clear hF hD
    obtain ⟨A24, c24, q24, hc24, hr24⟩ := e24
    exact wp_callS #[a.tmps.getD 21 undef, a.tmps.getD 24 undef] #[.agg (vF A P cp sz).toArray, .slice A24 (digs B32 x).length c24] (by kernel_rfl) (by rw [e21, q24]) (rred_any A A24 P cp sz c24 x W c3 hcp.out (Nat.le_trans HPl.out (by decide)) (NT.Prime.pos Hp.out) hr24 hc24 (Nat.le_trans HXl.out (by decide))) (fun v w' h hb => hK _ _ h hb)
  rintro w6 hB6 hC6 _ rfl _ rfl _ rfl v24 g24 v25 g25
  change Below _ _ _ at hB6
  change wpList _ _ _ _ _ _
  simp only [List.drop_succ_cons, List.drop_zero, Act.put, List.setIfInBounds_toArray, List.set_cons_zero, List.set_cons_succ]
  obtain ⟨A7, c7, rfl, hc7, hr7⟩ := g25
  replace hc7 := hide hc7
  replace hr7 := hide hr7
  have HB6 := hide (below_next HB5.out hB6)
  have HV6 := hide (HV5.out.next hB6)
  have HF6 := hide (HF5.out.next hB6)
  have HS6 := hide (HS5.out.next hB6)
  have HR6 := hide (HR5.out.below hB6)
  clear g24 hC6 hB6 HB5 HV5 HF5 HS5 HR5
  have Hinv := hide (finv_c bf bm P n sz x w6 HF6.out Ha.out)
  by_cases h0 : x % P = 0
  · have hd : decide (x % P ≠ 0) = false := decide_eq_false (fun h => h h0)
    have hl0 : (digs B32 (x % P)).length = 0 := by rw [h0, digs_zero]; rfl
    rw [hd, pl_inv0 Hp2.out x h0] at Hinv
    rw [hl0]
    have h00 : eqv 0 0 = true := by rfl
    replace h0 := hide h0
    clear hd hl0 hr7 hc7
    go_wp2_with (first
      | ((with_reducible refine wpList_of_wpK (o := ⟨some 29, _, _, _, _, _⟩) ?_ (wpAsk (.tmp 28) ?_ HV6.out 1 (v := x) ?_ ?_ ?_)); rfl; rfl; rfl; rfl)
      | (go_at_call 27; refine Hinv.out.mono ?_; rintro e w10 ⟨rfl, hb10⟩; replace hb10 := hide hb10)
      | ((with_reducible refine allocT 24 (o := ⟨some 8, _, _, _, _, _⟩) ?_ ?_ Try.zr24 ?_); rfl; rfl; intro w10a b8 hv8 hn8)
      | ((with_reducible refine storeT 24 (v' := 0) (o := ⟨none, _, _, _, _, _⟩) ?_ (.tmp 8) (.tmp 31) ?_ ?_ ?_ hv8 Try.sz24 ?_); rfl; rfl; rfl; rfl; intro w11 hv11 ho11; have Hv11 := hide hv11)
      | ((with_reducible refine wpList_of_wp (o := ⟨some 39, _, _, _, _, _⟩) ?_ (wpE 24 (.tmp 8) rfl Hv11.out ?_ Try.underlying24 rfl Try.sz24 ?_)); rfl; rfl))
    go_ret
    exact ⟨rfl, Only.below (below_next (below_next HB6.out hb10.out) hn8.bl) ho11.out (Nat.le_trans (Nat.le_trans HB6.out.size hb10.out.size) hn8.lo)⟩
  · have hd : decide (x % P ≠ 0) = true := decide_eq_true h0
    rw [hd] at Hinv
    clear hd
    obtain ⟨iv, hiv⟩ : ∃ v, v = x ^ (P - 2) % P := ⟨_, rfl⟩
    have hp1 := hide (pl_inv1 Hp.out x h0)
    have hp2 := hide (pl_inv2 Hp.out x h0)
    have hivP : iv < P := by rw [hiv]; exact Nat.mod_lt _ (NT.Prime.pos Hp.out)
    rw [← hiv] at Hinv hp1 hp2
    replace hiv := hide hiv
    have hP12 : P < B32 ^ 12 := HP32.out
    have HIl := hide (b32len (Nat.lt_trans hivP hP12))
    have HIB := hide (Nat.lt_trans hivP HF6.out.lt6)
    have HXP := hide (b32len (n := x % P) (k := 12) (Nat.lt_trans (Nat.mod_lt _ (NT.Prime.pos Hp.out)) hP12))
    have hm0 : 0 < (digs B32 (x % P)).length := by
      rcases Nat.eq_zero_or_pos (digs B32 (x % P)).length with h | h
      · exact absurd ((digs_eq_nil B32_ge).1 (List.length_eq_zero_iff.1 h)) h0
      · exact h
    have HZl := hide (b32len (n := x % P * iv) (k := 24) (by rw [show B32 ^ 24 = B32 ^ 12 * B32 ^ 12 from by rw [← Nat.pow_add]]; exact Nat.mul_lt_mul'' (Nat.lt_trans (Nat.mod_lt _ (NT.Prime.pos Hp.out)) hP12) (Nat.lt_trans hivP hP12)))
    have hcI : cmpI iv P = -1 := by unfold cmpI; rw [if_pos hivP]
    have HcmpI : Hid (∀ A' c' W, Rd W .u32 A' (digs B32 iv) → Rd W .u32 A (digs B32 P) → Calls Try.prog 21 #[.slice A' (digs B32 iv).length c', .slice A (digs B32 P).length cp] W fun e w' => e = .returned (.int .i64 (-1)) ∧ Below W.heap.size W w') := hide fun A' c' W h1 h2 => by
      have := ncmp_any A' A c' cp iv P W h1 h2 (Nat.le_trans HIl.out (by decide)) (Nat.le_trans HPl.out (by decide))
      rwa [hcI] at this
    have hl1 : (digs B32 1).length ≤ 1 := b32len (by decide)
    have Hcmp1 : Hid (∀ A1 c1 A2 c2 W, Rd W .u32 A1 (digs B32 1) → Rd W .u32 A2 (digs B32 1) → Calls Try.prog 21 #[.slice A1 (digs B32 1).length c1, .slice A2 (digs B32 1).length c2] W fun e w' => e = .returned (.int .i64 0) ∧ Below W.heap.size W w') := hide fun A1 c1 A2 c2 W h1 h2 =>
      ncmp_any A1 A2 c1 c2 1 1 W h1 h2 (Nat.le_trans hl1 (by decide)) (Nat.le_trans hl1 (by decide))
    have Hmul1 : Hid (∀ A' c' W, Rd W .u32 A (digs B32 P) → Rd W .u32 A7 (digs B32 (x % P)) → Rd W .u32 A' (digs B32 iv) → (digs B32 iv).length ≤ c' → Calls Try.prog 28 #[.agg (vF A P cp sz).toArray, .slice A7 (digs B32 (x % P)).length c7, .slice A' (digs B32 iv).length c'] W (RetSl W .u32 (digs B32 1))) := hide fun A' c' W h1 h2 h3 h4 => by
      have := rmul_any A A7 A' P cp sz c7 c' (x % P) iv W h1 hcp.out (Nat.le_trans HPl.out (by decide)) (NT.Prime.pos Hp.out) h2 hc7.out h3 h4 (Nat.le_trans HZl.out (by decide)) (Nat.lt_of_le_of_lt HXP.out (by decide)) (Nat.lt_of_le_of_lt HIl.out (by decide))
      rwa [hp1.out] at this
    have Hof : Hid (∀ W, Calls Try.prog 29 #[.int .u64 1] W (RetSl W .u32 (digs B32 1))) := hide fun W => nof_any 1 W (by decide)
    replace hivP := hide hivP
    replace h0 := hide h0
    clear hcI hl1 hP12
    generalize hm7 : (digs B32 (x % P)).length = m7 at *
    replace hm7 := hide hm7
    go_upto_region 8 with (first
      | ((with_reducible refine wpList_of_wpK (o := ⟨some 29, _, _, _, _, _⟩) ?_ (wpAsk (.tmp 28) ?_ HV6.out 1 (v := x) ?_ ?_ ?_)); rfl; rfl; rfl; rfl)
      | (go_at_call 27; refine Hinv.out.mono ?_; rintro e w10 ⟨rfl, hb10⟩; replace hb10 := hide hb10)
      | ((with_reducible refine allocT 24 (o := ⟨some 8, _, _, _, _, _⟩) ?_ ?_ Try.zr24 ?_); rfl; rfl; intro w10a b8 hv8 hn8)
      | ((with_reducible refine storeT 24 (v' := iv) (o := ⟨none, _, _, _, _, _⟩) ?_ (.tmp 8) (.tmp 31) ?_ ?_ ?_ hv8 Try.sz24 ?_); rfl; rfl; rfl; rfl; intro w11 hv11 ho11; have Hv11 := hide hv11))
    have hlt : ∀ {bb t L}, VB w6 bb t L → bb ≠ b8 := fun h => Nat.ne_of_lt (Nat.lt_of_lt_of_le (h.next hb10.out).lt hn8.lo)
    have HB11 := hide (Only.below (below_next (below_next HB6.out hb10.out) hn8.bl) ho11.out (Nat.le_trans (Nat.le_trans HB6.out.size hb10.out.size) hn8.lo))
    have HF11 := hide (((HF6.out.next hb10.out).next hn8.bl).only ho11.out (hlt HF6.out.vb) (hlt HF6.out.fb.vb))
    have HV11 := hide (ho11.out.vb ((HV6.out.next hb10.out).next hn8.bl) (hlt HV6.out))
    have HS11 := hide (ho11.out.vb ((HS6.out.next hb10.out).next hn8.bl) (hlt HS6.out))
    have HR11 := hide ((((HR6.out.below hb10.out).toB.next hn8.bl).only ho11.out hn8.lo).rd)
    have Hr711 := hide ((((hr7.out.below hb10.out).toB.next hn8.bl).only ho11.out hn8.lo).rd)
    have mlt := hide (show ∀ x, x % P < B64 ^ 6 from fun x => Nat.lt_of_lt_of_le (Nat.mod_lt _ (NT.Prime.pos Hp.out)) (Nat.le_of_lt HF11.out.lt6))
    clear hlt hv8 hn8 ho11 hb10 hv11 HB6 HF6 HV6 HS6 HR6 hr7 Hinv
    generalize hDI : digs B32 iv = DI at *
    replace hDI := hide hDI
    generalize hD1 : digs B32 1 = D1 at *
    replace hD1 := hide hD1
    generalize hDX : digs B32 (x % P) = DX at *
    replace hDX := hide hDX
    have HmI := hide (fun W => rn_any iv W HIB.out)
    rw [hDI.out] at HmI
    have hvF : vF A P cp sz = [.slice A (digs B32 P).length cp, .int .i64 (sz : Int)] := rfl
    refine region_do 30 73 [fun v _ => v = .slice A7 m7 c7, fun v _ => v = .int .i64 (m7 : Int), fun v _ => v = .bool true, fun v _ => v = .bool true, fun v _ => v = vE (iv), fun v w => SlIs .u32 DI v w, fun v _ => v = .pointer (some ⟨b4, 0, none⟩), fun v _ => v = .slice A (digs B32 P).length cp, fun v _ => v = .int .i64 (-1), fun v _ => v = .bool true, fun v _ => v = .bool true, fun v _ => v = .bool true, fun v _ => v = .agg (vF A P cp sz).toArray, fun v _ => v = .slice A7 m7 c7, fun v _ => v = vE (iv), fun v w => SlIs .u32 DI v w, fun v w => SlIs .u32 D1 v w, fun v w => SlIs .u32 D1 v w, fun v _ => v = .int .i64 0, fun v _ => v = .bool true, fun v _ => v = .bool true, fun v _ => v = .bool true, fun v _ => v = .pointer (some ⟨bf, 0, none⟩), fun v _ => v = vE (iv), fun v _ => v = .pointer (some ⟨b1, 1, none⟩), fun v _ => v = vE (x), fun v _ => v = vE ((iv) * (x) % P), fun v _ => v = vE (1), fun v _ => v = .bool true, fun v _ => v = .bool true]
      [(7, .slice A7 m7 c7), (8, .pointer (some ⟨b8, 0, none⟩)), (4, .pointer (some ⟨b4, 0, none⟩)), (3, .pointer (some ⟨bf, 0, none⟩)), (1, .pointer (some ⟨b1, 0, none⟩))] (fun w' => FQ w' bf bm P n sz ∧ VB w' b1 27 (askCells k x y z s) ∧ VB w' b4 32 (vF A P cp sz) ∧ VB w' b8 24 (ve iv) ∧ Rd w' .u32 A (digs B32 P) ∧ Rd w' .u32 A7 DX) (fun w' => True) 999 none (by kernel_rfl) (by kernel_rfl) rfl rfl
      (.cons (Fact.eq _) rfl (.cons (Fact.eq _) rfl (.cons (Fact.eq _) rfl (.cons (Fact.eq _) rfl (.cons (Fact.eq _) rfl (.cons (SlIs.st) rfl (.cons (Fact.eq _) rfl (.cons (Fact.eq _) rfl (.cons (Fact.eq _) rfl (.cons (Fact.eq _) rfl (.cons (Fact.eq _) rfl (.cons (Fact.eq _) rfl (.cons (Fact.eq _) rfl (.cons (Fact.eq _) rfl (.cons (Fact.eq _) rfl (.cons (SlIs.st) rfl (.cons (SlIs.st) rfl (.cons (SlIs.st) rfl (.cons (Fact.eq _) rfl (.cons (Fact.eq _) rfl (.cons (Fact.eq _) rfl (.cons (Fact.eq _) rfl (.cons (Fact.eq _) rfl (.cons (Fact.eq _) rfl (.cons (Fact.eq _) rfl (.cons (Fact.eq _) rfl (.cons (Fact.eq _) rfl (.cons (Fact.eq _) rfl (.cons (Fact.eq _) rfl (.cons (Fact.eq _) rfl (.nil _))))))))))))))))))))))))))))))) (fun w' h => ⟨HF11.out.next h, HV11.out.next h, HS11.out.next h, Hv11.out.next h, HR11.out.below h, Hr711.out.below h⟩) (fun w' h => trivial) (by kernel_rfl) ⟨rfl, rfl, rfl, rfl, rfl, trivial⟩ (.cons ?_ (.cons ?_ (.cons ?_ (.cons ?_ (.cons ?_ (.cons ?_ (.cons ?_ (.cons ?_ (.cons ?_ (.cons ?_ (.cons ?_ (.cons ?_ (.cons ?_ (.cons ?_ (.cons ?_ (.cons ?_ (.cons ?_ (.cons ?_ (.cons ?_ (.cons ?_ (.cons ?_ (.cons ?_ (.cons ?_ (.cons ?_ (.cons ?_ (.cons ?_ (.cons ?_ (.cons ?_ (.cons ?_ (.cons ?_ .nil)))))))))))))))))))))))))))))) ?_
    · refine Obl.plain rfl _ rfl rfl [] (by kernel_rfl) fun a W hF hC hD K hK => ?_
      have e7 : a.tmps.getD 7 undef = .slice A7 m7 c7 := hF.1
      clear hF hD hC
      go_simp
      exact hK _ _ rfl (Below.refl _ _)
    · refine Obl.plain rfl _ rfl rfl [0] (by kernel_rfl) fun a W hF hC hD K hK => ?_
      have e43 : a.tmps.getD 43 undef = .slice A7 m7 c7 := hD.1
      clear hF hD hC
      go_simp
      exact hK _ _ rfl (Below.refl _ _)
    · refine Obl.plain rfl _ rfl rfl [1] (by kernel_rfl) fun a W hF hC hD K hK => ?_
      have e44 : a.tmps.getD 44 undef = .int .i64 (m7 : Int) := hD.1
      clear hF hD hC
      have f0 : 0 < m7 := hm0
      go_simp
      exact hK _ _ rfl (Below.refl _ _)
    · refine Obl.plain rfl _ rfl rfl [2] (by kernel_rfl) fun a W hF hC hD K hK => ?_
      have e45 : a.tmps.getD 45 undef = .bool true := hD.1
      clear hF hD hC
      go_simp
      exact hK _ _ rfl (Below.refl _ _)
    · refine Obl.guarded rfl _ rfl 3 true 46 rfl rfl [3] (by kernel_rfl) (fun a W hF hC hD => hD.1) fun a W hF hC hD K hK => ?_
      obtain ⟨c1, c2, c3, c4, c5, c6⟩ := hC
      have e8 : a.tmps.getD 8 undef = .pointer (some ⟨b8, 0, none⟩) := hF.2.1
      clear hF hD
      exact wpE _ (.tmp 8) rfl c4 e8 Try.underlying24 rfl Try.sz24 (hK _ _ rfl (Below.refl _ _))
    · refine Obl.guarded rfl _ rfl 3 true 46 rfl rfl [4, 3, 3] (by kernel_rfl) (fun a W hF hC hD => hD.2.1) fun a W hF hC hD K hK => ?_
      have e47 : a.tmps.getD 47 undef = vE (iv) := hD.1
      clear hF hD hC
      exact wp_callS #[a.tmps.getD 47 undef] #[vE iv] (by kernel_rfl) (by rw [e47]) (HmI.out W) (fun v w' h hb => hK _ _ h hb)
    · refine Obl.guarded rfl _ rfl 3 true 46 rfl rfl [3] (by kernel_rfl) (fun a W hF hC hD => hD.1) fun a W hF hC hD K hK => ?_
      have e4 : a.tmps.getD 4 undef = .pointer (some ⟨b4, 0, none⟩) := hF.2.2.1
      clear hF hD hC
      go_simp
      exact hK _ _ rfl (Below.refl _ _)
    · refine Obl.guarded rfl _ rfl 3 true 46 rfl rfl [6, 3] (by kernel_rfl) (fun a W hF hC hD => hD.2.1) fun a W hF hC hD K hK => ?_
      obtain ⟨c1, c2, c3, c4, c5, c6⟩ := hC
      have e49 : a.tmps.getD 49 undef = .pointer (some ⟨b4, 0, none⟩) := hD.1
      clear hF hD
      have f0 : W.cell? ⟨b4, 0, none⟩ = some (.slice A (digs B32 P).length cp) := c3.cell 0
      go_simp
      exact hK _ _ rfl (Below.refl _ _)
    · refine Obl.guarded rfl _ rfl 3 true 46 rfl rfl [5, 7, 5, 3] (by kernel_rfl) (fun a W hF hC hD => hD.2.2.2.1) fun a W hF hC hD K hK => ?_
      obtain ⟨c1, c2, c3, c4, c5, c6⟩ := hC
      have e48 : (fun (v : Value) (w : World) => SlIs .u32 DI v w) (a.tmps.getD 48 undef) W := hD.1
      have e50 : a.tmps.getD 50 undef = .slice A (digs B32 P).length cp := hD.2.1
      clear hF hD
      obtain ⟨A48, c48, q48, hc48, hr48⟩ := e48
      exact wp_callV #[a.tmps.getD 48 undef, a.tmps.getD 50 undef] #[.slice A48 DI.length c48, .slice A (digs B32 P).length cp] (.int .i64 (-1)) (by kernel_rfl) (by rw [q48, e50]) (HcmpI.out A48 c48 W hr48 c5) (fun w' hb => hK _ _ rfl hb)
    · refine Obl.guarded rfl _ rfl 3 true 46 rfl rfl [8, 3] (by kernel_rfl) (fun a W hF hC hD => hD.2.1) fun a W hF hC hD K hK => ?_
      have e51 : a.tmps.getD 51 undef = .int .i64 (-1) := hD.1
      clear hF hD hC
      go_simp
      exact hK _ _ rfl (Below.refl _ _)
    · refine Obl.plain rfl _ rfl rfl [3, 9] (by kernel_rfl) fun a W hF hC hD K hK => ?_
      have e46 : a.tmps.getD 46 undef = .bool true := hD.1
      have e52 : a.tmps.getD 52 undef = .bool true := hD.2.1
      clear hF hD hC
      exact wp_pick (.tmp 46) (.tmp 52) (.const (.bool false)) rfl (b := true) e46 e52 (hK _ _ rfl (Below.refl _ _))
    · refine Obl.plain rfl _ rfl rfl [10, 8] (by kernel_rfl) fun a W hF hC hD K hK => ?_
      have e53 : a.tmps.getD 53 undef = .bool true := hD.1
      clear hF hD hC
      go_simp
      exact hK _ _ rfl (Below.refl _ _)
    · refine Obl.guarded rfl _ rfl 11 true 54 rfl rfl [11] (by kernel_rfl) (fun a W hF hC hD => hD.1) fun a W hF hC hD K hK => ?_
      obtain ⟨c1, c2, c3, c4, c5, c6⟩ := hC
      have e4 : a.tmps.getD 4 undef = .pointer (some ⟨b4, 0, none⟩) := hF.2.2.1
      clear hF hD
      exact wp_load_mid 32 (.tmp 4) rfl b4 0 e4 (vF A P cp sz) _ (fun j v hj => by rw [Nat.zero_add, c3.cell, hj]) Try.underlying32 rfl (szVF _ _ _ _) (hK _ _ rfl (Below.refl _ _))
    · refine Obl.guarded rfl _ rfl 11 true 54 rfl rfl [11] (by kernel_rfl) (fun a W hF hC hD => hD.1) fun a W hF hC hD K hK => ?_
      have e7 : a.tmps.getD 7 undef = .slice A7 m7 c7 := hF.1
      clear hF hD hC
      go_simp
      exact hK _ _ rfl (Below.refl _ _)
    · refine Obl.guarded rfl _ rfl 11 true 54 rfl rfl [11] (by kernel_rfl) (fun a W hF hC hD => hD.1) fun a W hF hC hD K hK => ?_
      obtain ⟨c1, c2, c3, c4, c5, c6⟩ := hC
      have e8 : a.tmps.getD 8 undef = .pointer (some ⟨b8, 0, none⟩) := hF.2.1
      clear hF hD
      exact wpE _ (.tmp 8) rfl c4 e8 Try.underlying24 rfl Try.sz24 (hK _ _ rfl (Below.refl _ _))
    · refine Obl.guarded rfl _ rfl 11 true 54 rfl rfl [14, 11, 11] (by kernel_rfl) (fun a W hF hC hD => hD.2.1) fun a W hF hC hD K hK => ?_
      have e57 : a.tmps.getD 57 undef = vE (iv) := hD.1
      clear hF hD hC
      exact wp_callS #[a.tmps.getD 57 undef] #[vE iv] (by kernel_rfl) (by rw [e57]) (HmI.out W) (fun v w' h hb => hK _ _ h hb)
    · refine Obl.guarded rfl _ rfl 11 true 54 rfl rfl [12, 13, 15, 15, 11] (by kernel_rfl) (fun a W hF hC hD => hD.2.2.2.2.1) fun a W hF hC hD K hK => ?_
      obtain ⟨c1, c2, c3, c4, c5, c6⟩ := hC
      have e55 : a.tmps.getD 55 undef = .agg (vF A P cp sz).toArray := hD.1
      have e56 : a.tmps.getD 56 undef = .slice A7 m7 c7 := hD.2.1
      have e58 : (fun (v : Value) (w : World) => SlIs .u32 DI v w) (a.tmps.getD 58 undef) W := hD.2.2.1
      clear hF hD
      obtain ⟨A58, c58, q58, hc58, hr58⟩ := e58
      exact wp_callS #[a.tmps.getD 55 undef, a.tmps.getD 56 undef, a.tmps.getD 58 undef] #[.agg (vF A P cp sz).toArray, .slice A7 m7 c7, .slice A58 DI.length c58] (by kernel_rfl) (by rw [e55, e56, q58]) (Hmul1.out A58 c58 W c5 c6 hr58 hc58) (fun v w' h hb => hK _ _ h hb)
    · refine Obl.guarded rfl _ rfl 11 true 54 rfl rfl [16, 11] (by kernel_rfl) (fun a W hF hC hD => hD.2.1) fun a W hF hC hD K hK => ?_
      clear hF hD hC
      exact wp_callS #[.int .u64 1] #[.int .u64 1] (by kernel_rfl) rfl (Hof.out W) (fun v w' h hb => hK _ _ h hb)
    · refine Obl.guarded rfl _ rfl 11 true 54 rfl rfl [16, 17, 17, 11] (by kernel_rfl) (fun a W hF hC hD => hD.2.2.2.1) fun a W hF hC hD K hK => ?_
      obtain ⟨c1, c2, c3, c4, c5, c6⟩ := hC
      have e59 : (fun (v : Value) (w : World) => SlIs .u32 D1 v w) (a.tmps.getD 59 undef) W := hD.1
      have e60 : (fun (v : Value) (w : World) => SlIs .u32 D1 v w) (a.tmps.getD 60 undef) W := hD.2.1
      clear hF hD
      obtain ⟨A59, c59, q59, hc59, hr59⟩ := e59
      obtain ⟨A60, c60, q60, hc60, hr60⟩ := e60
      exact wp_callV #[a.tmps.getD 59 undef, a.tmps.getD 60 undef] #[.slice A59 D1.length c59, .slice A60 D1.length c60] (.int .i64 0) (by kernel_rfl) (by rw [q59, q60]) (Hcmp1.out A59 c59 A60 c60 W hr59 hr60) (fun w' hb => hK _ _ rfl hb)
    · refine Obl.guarded rfl _ rfl 11 true 54 rfl rfl [18, 11] (by kernel_rfl) (fun a W hF hC hD => hD.2.1) fun a W hF hC hD K hK => ?_
      have e61 : a.tmps.getD 61 undef = .int .i64 0 := hD.1
      clear hF hD hC
      go_simp
      exact hK _ _ rfl (Below.refl _ _)
    · refine Obl.plain rfl _ rfl rfl [11, 19] (by kernel_rfl) fun a W hF hC hD K hK => ?_
      have e54 : a.tmps.getD 54 undef = .bool true := hD.1
      have e62 : a.tmps.getD 62 undef = .bool true := hD.2.1
      clear hF hD hC
      exact wp_pick (.tmp 54) (.tmp 62) (.const (.bool false)) rfl (b := true) e54 e62 (hK _ _ rfl (Below.refl _ _))
    · refine Obl.plain rfl _ rfl rfl [20, 18] (by kernel_rfl) fun a W hF hC hD K hK => ?_
      have e63 : a.tmps.getD 63 undef = .bool true := hD.1
      clear hF hD hC
      go_simp
      exact hK _ _ rfl (Below.refl _ _)
    · refine Obl.guarded rfl _ rfl 21 true 64 rfl rfl [21] (by kernel_rfl) (fun a W hF hC hD => hD.1) fun a W hF hC hD K hK => ?_
      have e3 : a.tmps.getD 3 undef = .pointer (some ⟨bf, 0, none⟩) := hF.2.2.2.1
      clear hF hD hC
      go_simp
      exact hK _ _ rfl (Below.refl _ _)
    · refine Obl.guarded rfl _ rfl 21 true 64 rfl rfl [21] (by kernel_rfl) (fun a W hF hC hD => hD.1) fun a W hF hC hD K hK => ?_
      obtain ⟨c1, c2, c3, c4, c5, c6⟩ := hC
      have e8 : a.tmps.getD 8 undef = .pointer (some ⟨b8, 0, none⟩) := hF.2.1
      clear hF hD
      exact wpE _ (.tmp 8) rfl c4 e8 Try.underlying24 rfl Try.sz24 (hK _ _ rfl (Below.refl _ _))
    · refine Obl.guarded rfl _ rfl 21 true 64 rfl rfl [21] (by kernel_rfl) (fun a W hF hC hD => hD.1) fun a W hF hC hD K hK => ?_
      have e1 : a.tmps.getD 1 undef = .pointer (some ⟨b1, 0, none⟩) := hF.2.2.2.2.1
      clear hF hD hC
      go_simp
      exact hK _ _ rfl (Below.refl _ _)
    · refine Obl.guarded rfl _ rfl 21 true 64 rfl rfl [24, 21] (by kernel_rfl) (fun a W hF hC hD => hD.2.1) fun a W hF hC hD K hK => ?_
      obtain ⟨c1, c2, c3, c4, c5, c6⟩ := hC
      have e67 : a.tmps.getD 67 undef = .pointer (some ⟨b1, 1, none⟩) := hD.1
      clear hF hD
      exact wpAsk (.tmp 67) rfl c2 1 e67 rfl (hK _ _ rfl (Below.refl _ _))
    · refine Obl.guarded rfl _ rfl 21 true 64 rfl rfl [22, 23, 25, 21, 21] (by kernel_rfl) (fun a W hF hC hD => hD.2.2.2.1) fun a W hF hC hD K hK => ?_
      obtain ⟨c1, c2, c3, c4, c5, c6⟩ := hC
      have e65 : a.tmps.getD 65 undef = .pointer (some ⟨bf, 0, none⟩) := hD.1
      have e66 : a.tmps.getD 66 undef = vE (iv) := hD.2.1
      have e68 : a.tmps.getD 68 undef = vE (x) := hD.2.2.1
      clear hF hD
      exact wp_callV #[a.tmps.getD 65 undef, a.tmps.getD 66 undef, a.tmps.getD 68 undef] #[.pointer (some ⟨bf, 0, none⟩), vE (iv), vE (x)] (vE ((iv) * (x) % P)) (by kernel_rfl) (by rw [e65, e66, e68]) (fmul_c bf bm P n sz (iv) (x) W c1 HIB.out Ha.out) fun w' hb => hK _ _ rfl hb
    · refine Obl.guarded rfl _ rfl 21 true 64 rfl rfl [21] (by kernel_rfl) (fun a W hF hC hD => hD.1) fun a W hF hC hD K hK => ?_
      clear hF hD hC
      exact wp_value (vE (1)) (by kernel_rfl) (hK _ _ rfl (Below.refl _ _))
    · refine Obl.guarded rfl _ rfl 21 true 64 rfl rfl [26, 27, 21] (by kernel_rfl) (fun a W hF hC hD => hD.2.2.1) fun a W hF hC hD K hK => ?_
      have e69 : a.tmps.getD 69 undef = vE ((iv) * (x) % P) := hD.1
      have e70 : a.tmps.getD 70 undef = vE (1) := hD.2.1
      clear hF hD hC
      have f0 := eqv_of hp2.out
      exact wp_eqlN (.tmp 69) (.tmp 70) _ rfl e69 e70 (hK _ _ (congrArg Value.bool f0) (Below.refl _ _))
    · refine Obl.plain rfl _ rfl rfl [21, 28] (by kernel_rfl) fun a W hF hC hD K hK => ?_
      have e64 : a.tmps.getD 64 undef = .bool true := hD.1
      have e71 : a.tmps.getD 71 undef = .bool true := hD.2.1
      clear hF hD hC
      exact wp_pick (.tmp 64) (.tmp 71) (.const (.bool false)) rfl (b := true) e64 e71 (hK _ _ rfl (Below.refl _ _))
    rintro w12 hB12 hC12 _ rfl _ rfl _ rfl _ rfl _ rfl v48 g48 _ rfl _ rfl _ rfl _ rfl _ rfl _ rfl _ rfl _ rfl _ rfl v58 g58 v59 g59 v60 g60 _ rfl _ rfl _ rfl _ rfl _ rfl _ rfl _ rfl _ rfl _ rfl _ rfl _ rfl _ rfl
    change Below _ _ _ at hB12
    change wpList _ _ _ _ _ _
    simp only [List.drop_succ_cons, List.drop_zero, Act.put, List.setIfInBounds_toArray, List.set_cons_zero, List.set_cons_succ]
    clear g48 g58 g59 g60
    go_wp2_with fail
    go_ret
    exact ⟨rfl, below_next HB11.out hB12⟩
end Go.Proofs.Ytincemkjdgbnnaa
