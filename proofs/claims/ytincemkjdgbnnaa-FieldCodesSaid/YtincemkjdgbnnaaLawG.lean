/- Walks: FieldSums. -/
import Derived.Test.YtincemkjdgbnnaaLawF
import Derived.Test.YtincemkjdgbnnaaRefH
set_option linter.unusedVariables false
set_option linter.unusedSimpArgs false
namespace Go.Proofs.Ytincemkjdgbnnaa
open Go.RowKit Lm

theorem ng_mod (P y : Nat) : ng P (y % P) = ng P y := by unfold ng; rw [Nat.mod_mod]
theorem pl_sum (P x y : Nat) : (x + y) % P = (x % P + y % P) % P := Nat.add_mod _ _ _
theorem pl_dif (P x y : Nat) : (x + ng P y) % P = (x % P + ng P (y % P) % P) % P := by rw [ng_mod, ← Nat.add_mod]
theorem pl_les (P x : Nat) : ng P x % P = ng P (x % P) % P := by rw [ng_mod]
theorem pl_prd (P x y : Nat) : x * y % P = x % P * (y % P) % P := Nat.mul_mod _ _ _
theorem pl_pwr (P x e : Nat) : x ^ e % P = (x % P) ^ e % P := Nat.pow_mod _ _ _

set_option maxRecDepth 100000 in
set_option maxHeartbeats 6400000 in
theorem sums_c (k : Int) (x y z : Nat) (E : Option Addr) (ce : Nat) (l : List Nat) (w : World) (hk : isKind k) (ha : x < B64 ^ 6) (hb : y < B64 ^ 6) (hr : Rd w .u8 E l) (hle : l.length ≤ ce) (hok : Ok 256 l) :
    Calls Try.prog 6 #[.agg (askCells k x y z (.slice E l.length ce)).toArray] w fun e w' => e = .returned (.bool true) ∧ Below w.heap.size w w' := by
  have Hboth := hide (fun W => both_c k W hk)
  have Hp := hide (kprime hk)
  have Ha := hide ha
  have Hb' := hide hb
  have HE := hide hr
  have Hle := hide hle
  have hP32 : kP k < B32 ^ 12 := by have := (kok hk).lt; have h6 := (kok hk).n6; exact Nat.lt_of_lt_of_le this (by rw [show B32 ^ 12 = B64 ^ 6 from rfl]; exact Nat.pow_le_pow_right B64_pos h6)
  have HP32 := hide hP32
  have HPl := hide (b32len hP32)
  have HXl := hide (b32len (n := x) (k := 12) (by rw [show B32 ^ 12 = B64 ^ 6 from rfl]; exact ha))
  have HYl := hide (b32len (n := y) (k := 12) (by rw [show B32 ^ 12 = B64 ^ 6 from rfl]; exact hb))
  clear hP32
  generalize kP k = P at *
  generalize kn k = n at *
  generalize ksz k = sz at *
  clear ha hb hk hr hle
  have hP0 := hide (NT.Prime.pos Hp.out)
  have hxP := hide (Nat.mod_lt x hP0.out)
  have hyP := hide (Nat.mod_lt y hP0.out)
  obtain ⟨le, hle⟩ : ∃ le, le = l.take 20 := ⟨_, rfl⟩
  have hle20 : le.length ≤ 20 := by rw [hle, List.length_take]; omega
  have okE : Ok 256 le := by rw [hle]; exact hok.take 20
  have Htwin := hide (fun W h => twin_any E ce 20 l W h Hle.out (by decide))
  rw [← hle] at Htwin
  have Hle20 := hide hle20
  have OkE := hide okE
  have htk : Hid (le.take 20 = le) := hide (List.take_of_length_le hle20)
  replace hle := hide hle
  obtain ⟨ev, hev⟩ : ∃ v, v = be le := ⟨_, rfl⟩
  have Hevl := hide (b32len (n := ev) (k := 5) (by rw [hev]; exact Nat.lt_of_lt_of_le (be_ok_lt okE hle20) (by decide +kernel)))
  replace hev := hide hev
  clear hle20 okE hok Hle
  go_enter Try.func6, Try.ntmps6
  go_upto_region 4 with (first
    | ((with_reducible refine wpList_box (o := ⟨some 1, _, _, _, _, _⟩) ?_ 27 (.tmp 0) ?_ (askCells k x y z (.slice E l.length ce)) ?_ ?_); rfl; rfl; rfl; intro w1 b1 h1 hv1 h3 h4; have hn1 : New w w1 b1 := ⟨by rw [h1]; exact Nat.le_refl _, by rw [h4]; omega, h3⟩; have r0 : w1.cell? ⟨b1, 0, none⟩ = some (.int .i64 k) := hv1.cell 0; clear h1 h3 h4; replace hv1 := hide hv1; replace hn1 := hide hn1)
    | (go_at_call 12; refine (Hboth.out w1).mono ?_; rintro e w2 ⟨bf, bm, A, cp, rfl, hF, hcp, hr, hB2⟩; replace hF := hide hF; replace hr := hide hr; replace hcp := hide hcp; replace hB2 := hide hB2)
    | ((with_reducible refine wpList_alloc (o := ⟨some 4, _, _, _, _, _⟩) ?_ 32 ?_ [.slice none 0 0, .int .i64 0] Try.zrF ?_); rfl; rfl; intro w4 b4 h1 hv4 h3 h4; have hn4 : New w2 w4 b4 := ⟨by rw [h1]; exact Nat.le_refl _, by rw [h4]; omega, h3⟩; clear h1 h3 h4; replace hn4 := hide hn4)
    | ((with_reducible refine wpList_storeW (o := ⟨none, _, _, _, _, _⟩) ?_ 32 (.tmp 4) (.tmp 15) ?_ ?_ hv4 (vF A P cp sz) ?_ (szVF _ _ _ _) ?_ ?_ ?_); rfl; rfl; rfl; rfl; rfl; rfl; intro w5 hv5 ho5; replace ho5 := hide ho5; replace hv5 := hide hv5))
  clear r0
  have hb14 : b1 < b4 := Nat.lt_of_lt_of_le hn1.out.hi (Nat.le_trans hB2.out.size hn4.out.lo)
  have hB4 := below_next (below_next hn1.out.bl hB2.out) hn4.out.bl
  have HB5 := hide (Only.below hB4 ho5.out (Nat.le_trans hn1.out.lo (Nat.le_of_lt hb14)))
  have HV5 := hide (ho5.out.vb ((hv1.out.next hB2.out).next hn4.out.bl) (Nat.ne_of_lt hb14))
  have hF4 := hF.out.next hn4.out.bl
  have HF5 := hide (hF4.only ho5.out (Nat.ne_of_lt (Nat.lt_of_lt_of_le hF.out.vb.lt hn4.out.lo)) (Nat.ne_of_lt (Nat.lt_of_lt_of_le hF.out.fb.vb.lt hn4.out.lo)))
  have HR5 := hide ((((hr.out.toB).next hn4.out.bl).only ho5.out hn4.out.lo).rd)
  have HS5 := hide hv5.out
  have HE5 := hide (HE.out.below HB5.out)
  clear hv4 hb14 hF4 hn1 hn4 hB2 hF hv1 hr hv5 ho5 hB4 Hboth HE
  have HredX := hide (fun A24 c24 W h1 h2 h3 => rred_any A A24 P cp sz c24 x W h1 hcp.out (Nat.le_trans HPl.out (by decide)) hP0.out h2 h3 (Nat.le_trans HXl.out (by decide)))
  have HredY := hide (fun A24 c24 W h1 h2 h3 => rred_any A A24 P cp sz c24 y W h1 hcp.out (Nat.le_trans HPl.out (by decide)) hP0.out h2 h3 (Nat.le_trans HYl.out (by decide)))
  refine region_do 11 124 [fun v _ => v = .agg (vF A P cp sz).toArray, fun v _ => v = .pointer (some ⟨b1, 1, none⟩), fun v _ => v = vE (x), fun v w => SlIs .u32 (digs B32 x) v w, fun v w => SlIs .u32 (digs B32 (x % P)) v w, fun v _ => v = .agg (vF A P cp sz).toArray, fun v _ => v = .pointer (some ⟨b1, 7, none⟩), fun v _ => v = vE (y), fun v w => SlIs .u32 (digs B32 y) v w, fun v w => SlIs .u32 (digs B32 (y % P)) v w, fun v w => SlIs .u32 (digs B32 (x % P)) v w]
    [(4, .pointer (some ⟨b4, 0, none⟩)), (1, .pointer (some ⟨b1, 0, none⟩))] (fun w' => VB w' b1 27 (askCells k x y z (.slice E l.length ce)) ∧ VB w' b4 32 (vF A P cp sz) ∧ Rd w' .u32 A (digs B32 P)) (fun w' => True) 999 none (by kernel_rfl) (by kernel_rfl) rfl rfl
    (.cons (Fact.eq _) rfl (.cons (Fact.eq _) rfl (.cons (Fact.eq _) rfl (.cons (SlIs.st) rfl (.cons (SlIs.st) rfl (.cons (Fact.eq _) rfl (.cons (Fact.eq _) rfl (.cons (Fact.eq _) rfl (.cons (SlIs.st) rfl (.cons (SlIs.st) rfl (.cons (SlIs.st) rfl (.nil _)))))))))))) (fun w' h => ⟨HV5.out.next h, HS5.out.next h, HR5.out.below h⟩) (fun w' h => trivial) (by kernel_rfl) ⟨rfl, rfl, trivial⟩ (.cons ?_ (.cons ?_ (.cons ?_ (.cons ?_ (.cons ?_ (.cons ?_ (.cons ?_ (.cons ?_ (.cons ?_ (.cons ?_ (.cons ?_ .nil))))))))))) ?_
  · refine Obl.plain rfl _ rfl rfl [] (by kernel_rfl) fun a W hF hC hD K hK => ?_
    obtain ⟨c1, c2, c3⟩ := hC
    have e4 : a.tmps.getD 4 undef = .pointer (some ⟨b4, 0, none⟩) := hF.1
    clear hF hD
    exact wp_load_mid 32 (.tmp 4) rfl b4 0 e4 (vF A P cp sz) _ (fun j v hj => by rw [Nat.zero_add, c2.cell, hj]) Try.underlying32 rfl (szVF _ _ _ _) (hK _ _ rfl (Below.refl _ _))
  · refine Obl.plain rfl _ rfl rfl [] (by kernel_rfl) fun a W hF hC hD K hK => ?_
    have e1 : a.tmps.getD 1 undef = .pointer (some ⟨b1, 0, none⟩) := hF.2.1
    clear hF hD hC
    go_simp
    exact hK _ _ rfl (Below.refl _ _)
  · refine Obl.plain rfl _ rfl rfl [1] (by kernel_rfl) fun a W hF hC hD K hK => ?_
    obtain ⟨c1, c2, c3⟩ := hC
    have e22 : a.tmps.getD 22 undef = .pointer (some ⟨b1, 1, none⟩) := hD.1
    clear hF hD
    exact wpAsk (.tmp 22) rfl c1 1 e22 rfl (hK _ _ rfl (Below.refl _ _))
  · refine Obl.plain rfl _ rfl rfl [2] (by kernel_rfl) fun a W hF hC hD K hK => ?_
    have e23 : a.tmps.getD 23 undef = vE (x) := hD.1
    clear hF hD hC
    exact wp_callS #[a.tmps.getD 23 undef] #[vE x] (by kernel_rfl) (by rw [e23]) (rn_any x W Ha.out) (fun v w' h hb => hK _ _ h hb)
  · refine Obl.plain rfl _ rfl rfl [0, 3, 3] (by kernel_rfl) fun a W hF hC hD K hK => ?_
    obtain ⟨c1, c2, c3⟩ := hC
    have e21 : a.tmps.getD 21 undef = .agg (vF A P cp sz).toArray := hD.1
    have e24 : (fun (v : Value) (w : World) => SlIs .u32 (digs B32 x) v w) (a.tmps.getD 24 undef) W := hD.2.1
    clear hF hD
    obtain ⟨A24, c24, q24, hc24, hr24⟩ := e24
    exact wp_callS #[a.tmps.getD 21 undef, a.tmps.getD 24 undef] #[.agg (vF A P cp sz).toArray, .slice A24 (digs B32 x).length c24] (by kernel_rfl) (by rw [e21, q24]) (HredX.out A24 c24 W c3 hr24 hc24) (fun v w' h hb => hK _ _ h hb)
  · refine Obl.plain rfl _ rfl rfl [] (by kernel_rfl) fun a W hF hC hD K hK => ?_
    obtain ⟨c1, c2, c3⟩ := hC
    have e4 : a.tmps.getD 4 undef = .pointer (some ⟨b4, 0, none⟩) := hF.1
    clear hF hD
    exact wp_load_mid 32 (.tmp 4) rfl b4 0 e4 (vF A P cp sz) _ (fun j v hj => by rw [Nat.zero_add, c2.cell, hj]) Try.underlying32 rfl (szVF _ _ _ _) (hK _ _ rfl (Below.refl _ _))
  · refine Obl.plain rfl _ rfl rfl [] (by kernel_rfl) fun a W hF hC hD K hK => ?_
    have e1 : a.tmps.getD 1 undef = .pointer (some ⟨b1, 0, none⟩) := hF.2.1
    clear hF hD hC
    go_simp
    exact hK _ _ rfl (Below.refl _ _)
  · refine Obl.plain rfl _ rfl rfl [6] (by kernel_rfl) fun a W hF hC hD K hK => ?_
    obtain ⟨c1, c2, c3⟩ := hC
    have e27 : a.tmps.getD 27 undef = .pointer (some ⟨b1, 7, none⟩) := hD.1
    clear hF hD
    exact wpAsk (.tmp 27) rfl c1 7 e27 rfl (hK _ _ rfl (Below.refl _ _))
  · refine Obl.plain rfl _ rfl rfl [7, 4] (by kernel_rfl) fun a W hF hC hD K hK => ?_
    have e28 : a.tmps.getD 28 undef = vE (y) := hD.1
    clear hF hD hC
    exact wp_callS #[a.tmps.getD 28 undef] #[vE y] (by kernel_rfl) (by rw [e28]) (rn_any y W Hb'.out) (fun v w' h hb => hK _ _ h hb)
  · refine Obl.plain rfl _ rfl rfl [5, 8, 8] (by kernel_rfl) fun a W hF hC hD K hK => ?_
    obtain ⟨c1, c2, c3⟩ := hC
    have e26 : a.tmps.getD 26 undef = .agg (vF A P cp sz).toArray := hD.1
    have e29 : (fun (v : Value) (w : World) => SlIs .u32 (digs B32 y) v w) (a.tmps.getD 29 undef) W := hD.2.1
    clear hF hD
    obtain ⟨A24, c24, q24, hc24, hr24⟩ := e29
    exact wp_callS #[a.tmps.getD 26 undef, a.tmps.getD 29 undef] #[.agg (vF A P cp sz).toArray, .slice A24 (digs B32 y).length c24] (by kernel_rfl) (by rw [e26, q24]) (HredY.out A24 c24 W c3 hr24 hc24) (fun v w' h hb => hK _ _ h hb)
  · refine Obl.plain rfl _ rfl rfl [4, 9, 0, 1, 2, 3, 4] (by kernel_rfl) fun a W hF hC hD K hK => ?_
    have e25 : (fun (v : Value) (w : World) => SlIs .u32 (digs B32 (x % P)) v w) (a.tmps.getD 25 undef) W := hD.1
    clear hF hD hC
    exact wp_assign (.tmp 25) rfl rfl (hK _ _ e25 (Below.refl _ _))
  rintro w6 hB6 hC6 _ rfl _ rfl _ rfl v24 g24 v25 g25 _ rfl _ rfl _ rfl v29 g29 v30 g30 v7 g7
  change Below _ _ _ at hB6
  change wpList _ _ _ _ _ _
  simp only [List.drop_succ_cons, List.drop_zero, Act.put, List.setIfInBounds_toArray, List.set_cons_zero, List.set_cons_succ]
  obtain ⟨A7, ca, rfl, hc7, hr7⟩ := g7
  obtain ⟨A8, cb, rfl, hc8, hr8⟩ := g30
  replace hc7 := hide hc7
  replace hr7 := hide hr7
  replace hc8 := hide hc8
  replace hr8 := hide hr8
  have HB6 := hide (below_next HB5.out hB6)
  have HV6 := hide (HV5.out.next hB6)
  have HF6 := hide (HF5.out.next hB6)
  have HS6 := hide (HS5.out.next hB6)
  have HR6 := hide (HR5.out.below hB6)
  have HE6 := hide (HE5.out.below hB6)
  have r19 : w6.cell? ⟨b1, 19, none⟩ = some (.slice E l.length ce) := HV6.out.cell 19
  clear g24 g25 g29 hC6 hB6 HB5 HV5 HF5 HS5 HR5 HE5 HredX HredY
  go_upto_region 6 with (go_at_call 14; refine (Htwin.out w6 HE6.out).mono ?_; rintro e w7 ⟨Ae, cet, rfl, hce, hre, hb7⟩; replace hce := hide hce; replace hre := hide hre; replace hb7 := hide hb7)
  have HB7 := hide (below_next HB6.out hb7.out)
  have HV7 := hide (HV6.out.next hb7.out)
  have HF7 := hide (HF6.out.next hb7.out)
  have HS7 := hide (HS6.out.next hb7.out)
  have HR7 := hide (HR6.out.below hb7.out)
  have Hr77 := hide (hr7.out.below hb7.out)
  have Hr87 := hide (hr8.out.below hb7.out)
  have mlt := hide (show ∀ x, x % P < B64 ^ 6 from fun x => Nat.lt_of_lt_of_le (Nat.mod_lt _ hP0.out) (Nat.le_of_lt HF7.out.lt6))
  have HPl6 := hide HF7.out.lt6
  clear r19 hb7 HB6 HV6 HF6 HS6 HR6 HE6 hr7 hr8 Htwin
  have Htw := hide (fun W h => twin_any Ae cet 20 le W h hce.out (by decide))
  rw [htk.out] at Htw
  have Hfr := hide (fun W h => nfrom_any Ae cet le W h hce.out (Nat.le_trans Hle20.out (by decide)) OkE.out)
  rw [← hev.out] at Hfr
  have Hxe : Hid (∀ A1 c1 W, FQ W bf bm P n sz → Rd W .u8 A1 le → le.length ≤ c1 → Calls Try.prog 17 #[.pointer (some ⟨bf, 0, none⟩), vE x, .slice A1 le.length c1] W fun e w' => e = .returned (vE (x ^ ev % P)) ∧ Below W.heap.size W w') := hide fun A1 c1 W h1 h2 h3 => by
    have := fexp_c bf bm P n sz x A1 c1 le W h1 Ha.out h2 h3 (Nat.le_trans Hle20.out (by decide)) OkE.out
    rwa [← hev.out] at this
  have hxl := hide (Nat.le_trans (digs_length_le (B := B32) B32_ge (Nat.lt_trans hxP.out HP32.out)) (by decide : 12 ≤ 33554432))
  have hyl := hide (Nat.le_trans (digs_length_le (B := B32) B32_ge (Nat.lt_trans hyP.out HP32.out)) (by decide : 12 ≤ 33554432))
  have hzl := hide (b32len (n := x % P * (y % P)) (k := 24) (by rw [show B32 ^ 24 = B32 ^ 12 * B32 ^ 12 from by rw [← Nat.pow_add]]; exact Nat.mul_lt_mul'' (Nat.lt_trans hxP.out HP32.out) (Nat.lt_trans hyP.out HP32.out)))
  refine region_do 90 124 [fun v _ => v = .pointer (some ⟨bf, 0, none⟩), fun v _ => v = vE (P), fun v _ => v = .pointer (some ⟨b4, 0, none⟩), fun v _ => v = .slice A (digs B32 P).length cp, fun v _ => v = vE (P), fun v _ => v = .bool true, fun v _ => v = .bool true, fun v _ => v = .pointer (some ⟨bf, 0, none⟩), fun v _ => v = .int .i64 (sz : Int), fun v _ => v = .pointer (some ⟨b4, 1, none⟩), fun v _ => v = .int .i64 (sz : Int), fun v _ => v = .bool true, fun v _ => v = .bool true, fun v _ => v = .bool true, fun v _ => v = .pointer (some ⟨bf, 0, none⟩), fun v _ => v = .pointer (some ⟨b1, 1, none⟩), fun v _ => v = vE (x), fun v _ => v = vE ((x) % P), fun v _ => v = .slice A7 (digs B32 (x % P)).length ca, fun v _ => v = vE (x % P), fun v _ => v = .bool true, fun v _ => v = .bool true, fun v _ => v = .bool true, fun v _ => v = .pointer (some ⟨bf, 0, none⟩), fun v _ => v = .pointer (some ⟨b1, 1, none⟩), fun v _ => v = vE (x), fun v _ => v = .pointer (some ⟨b1, 7, none⟩), fun v _ => v = vE (y), fun v _ => v = vE (((x) + (y)) % P), fun v _ => v = .agg (vF A P cp sz).toArray, fun v _ => v = .slice A7 (digs B32 (x % P)).length ca, fun v _ => v = .slice A8 (digs B32 (y % P)).length cb, fun v w => SlIs .u32 (digs B32 ((x % P + y % P) % P)) v w, fun v _ => v = vE ((x % P + y % P) % P), fun v _ => v = .bool true, fun v _ => v = .bool true, fun v _ => v = .bool true, fun v _ => v = .pointer (some ⟨bf, 0, none⟩), fun v _ => v = .pointer (some ⟨b1, 1, none⟩), fun v _ => v = vE (x), fun v _ => v = .pointer (some ⟨b1, 7, none⟩), fun v _ => v = vE (y), fun v _ => v = vE (((x) + ng P (y)) % P), fun v _ => v = .agg (vF A P cp sz).toArray, fun v _ => v = .slice A7 (digs B32 (x % P)).length ca, fun v _ => v = .slice A8 (digs B32 (y % P)).length cb, fun v w => SlIs .u32 (digs B32 ((x % P + ng P (y % P) % P) % P)) v w, fun v _ => v = vE ((x % P + ng P (y % P) % P) % P), fun v _ => v = .bool true, fun v _ => v = .bool true, fun v _ => v = .bool true, fun v _ => v = .pointer (some ⟨bf, 0, none⟩), fun v _ => v = .pointer (some ⟨b1, 1, none⟩), fun v _ => v = vE (x), fun v _ => v = vE (ng P (x) % P), fun v _ => v = .agg (vF A P cp sz).toArray, fun v _ => v = .slice A7 (digs B32 (x % P)).length ca, fun v w => SlIs .u32 (digs B32 (ng P (x % P) % P)) v w, fun v _ => v = vE (ng P (x % P) % P), fun v _ => v = .bool true, fun v _ => v = .bool true, fun v _ => v = .bool true, fun v _ => v = .pointer (some ⟨bf, 0, none⟩), fun v _ => v = .pointer (some ⟨b1, 1, none⟩), fun v _ => v = vE (x), fun v _ => v = .pointer (some ⟨b1, 7, none⟩), fun v _ => v = vE (y), fun v _ => v = vE ((x) * (y) % P), fun v _ => v = .agg (vF A P cp sz).toArray, fun v _ => v = .slice A7 (digs B32 (x % P)).length ca, fun v _ => v = .slice A8 (digs B32 (y % P)).length cb, fun v w => SlIs .u32 (digs B32 (x % P * (y % P) % P)) v w, fun v _ => v = vE (x % P * (y % P) % P), fun v _ => v = .bool true, fun v _ => v = .bool true, fun v _ => v = .bool true, fun v _ => v = .pointer (some ⟨bf, 0, none⟩), fun v _ => v = .pointer (some ⟨b1, 1, none⟩), fun v _ => v = vE (x), fun v _ => v = .slice Ae le.length cet, fun v w => SlIs .u8 le v w, fun v _ => v = vE (x ^ ev % P), fun v _ => v = .agg (vF A P cp sz).toArray, fun v _ => v = .slice A7 (digs B32 (x % P)).length ca, fun v _ => v = .slice Ae le.length cet, fun v w => SlIs .u32 (digs B32 ev) v w, fun v w => SlIs .u32 (digs B32 ((x % P) ^ ev % P)) v w, fun v _ => v = vE ((x % P) ^ ev % P), fun v _ => v = .bool true, fun v _ => v = .bool true]
    [(3, .pointer (some ⟨bf, 0, none⟩)), (4, .pointer (some ⟨b4, 0, none⟩)), (1, .pointer (some ⟨b1, 0, none⟩)), (7, .slice A7 (digs B32 (x % P)).length ca), (8, .slice A8 (digs B32 (y % P)).length cb), (9, .slice Ae le.length cet)] (fun w' => FQ w' bf bm P n sz ∧ VB w' b1 27 (askCells k x y z (.slice E l.length ce)) ∧ VB w' b4 32 (vF A P cp sz) ∧ Rd w' .u32 A (digs B32 P) ∧ Rd w' .u32 A7 (digs B32 (x % P)) ∧ Rd w' .u32 A8 (digs B32 (y % P)) ∧ Rd w' .u8 Ae le) (fun w' => True) 999 none (by kernel_rfl) (by kernel_rfl) rfl rfl
    (.cons (Fact.eq _) rfl (.cons (Fact.eq _) rfl (.cons (Fact.eq _) rfl (.cons (Fact.eq _) rfl (.cons (Fact.eq _) rfl (.cons (Fact.eq _) rfl (.cons (Fact.eq _) rfl (.cons (Fact.eq _) rfl (.cons (Fact.eq _) rfl (.cons (Fact.eq _) rfl (.cons (Fact.eq _) rfl (.cons (Fact.eq _) rfl (.cons (Fact.eq _) rfl (.cons (Fact.eq _) rfl (.cons (Fact.eq _) rfl (.cons (Fact.eq _) rfl (.cons (Fact.eq _) rfl (.cons (Fact.eq _) rfl (.cons (Fact.eq _) rfl (.cons (Fact.eq _) rfl (.cons (Fact.eq _) rfl (.cons (Fact.eq _) rfl (.cons (Fact.eq _) rfl (.cons (Fact.eq _) rfl (.cons (Fact.eq _) rfl (.cons (Fact.eq _) rfl (.cons (Fact.eq _) rfl (.cons (Fact.eq _) rfl (.cons (Fact.eq _) rfl (.cons (Fact.eq _) rfl (.cons (Fact.eq _) rfl (.cons (Fact.eq _) rfl (.cons (SlIs.st) rfl (.cons (Fact.eq _) rfl (.cons (Fact.eq _) rfl (.cons (Fact.eq _) rfl (.cons (Fact.eq _) rfl (.cons (Fact.eq _) rfl (.cons (Fact.eq _) rfl (.cons (Fact.eq _) rfl (.cons (Fact.eq _) rfl (.cons (Fact.eq _) rfl (.cons (Fact.eq _) rfl (.cons (Fact.eq _) rfl (.cons (Fact.eq _) rfl (.cons (Fact.eq _) rfl (.cons (SlIs.st) rfl (.cons (Fact.eq _) rfl (.cons (Fact.eq _) rfl (.cons (Fact.eq _) rfl (.cons (Fact.eq _) rfl (.cons (Fact.eq _) rfl (.cons (Fact.eq _) rfl (.cons (Fact.eq _) rfl (.cons (Fact.eq _) rfl (.cons (Fact.eq _) rfl (.cons (Fact.eq _) rfl (.cons (SlIs.st) rfl (.cons (Fact.eq _) rfl (.cons (Fact.eq _) rfl (.cons (Fact.eq _) rfl (.cons (Fact.eq _) rfl (.cons (Fact.eq _) rfl (.cons (Fact.eq _) rfl (.cons (Fact.eq _) rfl (.cons (Fact.eq _) rfl (.cons (Fact.eq _) rfl (.cons (Fact.eq _) rfl (.cons (Fact.eq _) rfl (.cons (Fact.eq _) rfl (.cons (Fact.eq _) rfl (.cons (SlIs.st) rfl (.cons (Fact.eq _) rfl (.cons (Fact.eq _) rfl (.cons (Fact.eq _) rfl (.cons (Fact.eq _) rfl (.cons (Fact.eq _) rfl (.cons (Fact.eq _) rfl (.cons (Fact.eq _) rfl (.cons (Fact.eq _) rfl (.cons (SlIs.st) rfl (.cons (Fact.eq _) rfl (.cons (Fact.eq _) rfl (.cons (Fact.eq _) rfl (.cons (Fact.eq _) rfl (.cons (SlIs.st) rfl (.cons (SlIs.st) rfl (.cons (Fact.eq _) rfl (.cons (Fact.eq _) rfl (.cons (Fact.eq _) rfl (.nil _))))))))))))))))))))))))))))))))))))))))))))))))))))))))))))))))))))))))))))))))))))))))))) (fun w' h => ⟨HF7.out.next h, HV7.out.next h, HS7.out.next h, HR7.out.below h, Hr77.out.below h, Hr87.out.below h, hre.out.below h⟩) (fun w' h => trivial) (by kernel_rfl) ⟨rfl, rfl, rfl, rfl, rfl, rfl, trivial⟩ (.cons ?_ (.cons ?_ (.cons ?_ (.cons ?_ (.cons ?_ (.cons ?_ (.cons ?_ (.cons ?_ (.cons ?_ (.cons ?_ (.cons ?_ (.cons ?_ (.cons ?_ (.cons ?_ (.cons ?_ (.cons ?_ (.cons ?_ (.cons ?_ (.cons ?_ (.cons ?_ (.cons ?_ (.cons ?_ (.cons ?_ (.cons ?_ (.cons ?_ (.cons ?_ (.cons ?_ (.cons ?_ (.cons ?_ (.cons ?_ (.cons ?_ (.cons ?_ (.cons ?_ (.cons ?_ (.cons ?_ (.cons ?_ (.cons ?_ (.cons ?_ (.cons ?_ (.cons ?_ (.cons ?_ (.cons ?_ (.cons ?_ (.cons ?_ (.cons ?_ (.cons ?_ (.cons ?_ (.cons ?_ (.cons ?_ (.cons ?_ (.cons ?_ (.cons ?_ (.cons ?_ (.cons ?_ (.cons ?_ (.cons ?_ (.cons ?_ (.cons ?_ (.cons ?_ (.cons ?_ (.cons ?_ (.cons ?_ (.cons ?_ (.cons ?_ (.cons ?_ (.cons ?_ (.cons ?_ (.cons ?_ (.cons ?_ (.cons ?_ (.cons ?_ (.cons ?_ (.cons ?_ (.cons ?_ (.cons ?_ (.cons ?_ (.cons ?_ (.cons ?_ (.cons ?_ (.cons ?_ (.cons ?_ (.cons ?_ (.cons ?_ (.cons ?_ (.cons ?_ (.cons ?_ (.cons ?_ (.cons ?_ (.cons ?_ (.cons ?_ .nil)))))))))))))))))))))))))))))))))))))))))))))))))))))))))))))))))))))))))))))))))))))))))) ?_
  · refine Obl.plain rfl _ rfl rfl [] (by kernel_rfl) fun a W hF hC hD K hK => ?_
    have e3 : a.tmps.getD 3 undef = .pointer (some ⟨bf, 0, none⟩) := hF.1
    clear hF hD hC
    go_simp
    exact hK _ _ rfl (Below.refl _ _)
  · refine Obl.plain rfl _ rfl rfl [0] (by kernel_rfl) fun a W hF hC hD K hK => ?_
    obtain ⟨c1, c2, c3, c4, c5, c6, c7⟩ := hC
    have e34 : a.tmps.getD 34 undef = .pointer (some ⟨bf, 0, none⟩) := hD.1
    clear hF hD
    exact wp_callV #[a.tmps.getD 34 undef] #[.pointer (some ⟨bf, 0, none⟩)] (vE (P)) (by kernel_rfl) (by rw [e34]) (fmodulus_c bf bm P n sz W c1) fun w' hb => hK _ _ rfl hb
  · refine Obl.plain rfl _ rfl rfl [] (by kernel_rfl) fun a W hF hC hD K hK => ?_
    have e4 : a.tmps.getD 4 undef = .pointer (some ⟨b4, 0, none⟩) := hF.2.1
    clear hF hD hC
    go_simp
    exact hK _ _ rfl (Below.refl _ _)
  · refine Obl.plain rfl _ rfl rfl [2] (by kernel_rfl) fun a W hF hC hD K hK => ?_
    obtain ⟨c1, c2, c3, c4, c5, c6, c7⟩ := hC
    have e36 : a.tmps.getD 36 undef = .pointer (some ⟨b4, 0, none⟩) := hD.1
    clear hF hD
    have f0 : W.cell? ⟨b4, 0, none⟩ = some (.slice A (digs B32 P).length cp) := c3.cell 0
    go_simp
    exact hK _ _ rfl (Below.refl _ _)
  · refine Obl.plain rfl _ rfl rfl [3, 1] (by kernel_rfl) fun a W hF hC hD K hK => ?_
    obtain ⟨c1, c2, c3, c4, c5, c6, c7⟩ := hC
    have e37 : a.tmps.getD 37 undef = .slice A (digs B32 P).length cp := hD.1
    clear hF hD
    exact wp_callV #[a.tmps.getD 37 undef] #[.slice A (digs B32 P).length cp] (vE P) (by kernel_rfl) (by rw [e37]) (rnum_any A cp P W c4 hcp.out HPl6.out) (fun w' hb => hK _ _ rfl hb)
  · refine Obl.plain rfl _ rfl rfl [1, 4] (by kernel_rfl) fun a W hF hC hD K hK => ?_
    have e35 : a.tmps.getD 35 undef = vE (P) := hD.1
    have e38 : a.tmps.getD 38 undef = vE (P) := hD.2.1
    clear hF hD hC
    have f0 := eqv_of (rfl : P = P)
    exact wp_eqlN (.tmp 35) (.tmp 38) _ rfl e35 e38 (hK _ _ (congrArg Value.bool f0) (Below.refl _ _))
  · refine Obl.plain rfl _ rfl rfl [5, 4] (by kernel_rfl) fun a W hF hC hD K hK => ?_
    have e39 : a.tmps.getD 39 undef = .bool true := hD.1
    clear hF hD hC
    go_simp
    exact hK _ _ rfl (Below.refl _ _)
  · refine Obl.guarded rfl _ rfl 6 true 40 rfl rfl [6] (by kernel_rfl) (fun a W hF hC hD => hD.1) fun a W hF hC hD K hK => ?_
    have e3 : a.tmps.getD 3 undef = .pointer (some ⟨bf, 0, none⟩) := hF.1
    clear hF hD hC
    go_simp
    exact hK _ _ rfl (Below.refl _ _)
  · refine Obl.guarded rfl _ rfl 6 true 40 rfl rfl [7, 6, 6] (by kernel_rfl) (fun a W hF hC hD => hD.2.1) fun a W hF hC hD K hK => ?_
    obtain ⟨c1, c2, c3, c4, c5, c6, c7⟩ := hC
    have e41 : a.tmps.getD 41 undef = .pointer (some ⟨bf, 0, none⟩) := hD.1
    clear hF hD
    exact wp_callQ #[a.tmps.getD 41 undef] #[.pointer (some ⟨bf, 0, none⟩)] (.int .i64 (sz : Int)) (by kernel_rfl) (by rw [e41]) (fsize_c bf bm P n sz W c1) (hK _ _ rfl (Below.refl _ _))
  · refine Obl.guarded rfl _ rfl 6 true 40 rfl rfl [6] (by kernel_rfl) (fun a W hF hC hD => hD.1) fun a W hF hC hD K hK => ?_
    have e4 : a.tmps.getD 4 undef = .pointer (some ⟨b4, 0, none⟩) := hF.2.1
    clear hF hD hC
    go_simp
    exact hK _ _ rfl (Below.refl _ _)
  · refine Obl.guarded rfl _ rfl 6 true 40 rfl rfl [9, 6] (by kernel_rfl) (fun a W hF hC hD => hD.2.1) fun a W hF hC hD K hK => ?_
    obtain ⟨c1, c2, c3, c4, c5, c6, c7⟩ := hC
    have e43 : a.tmps.getD 43 undef = .pointer (some ⟨b4, 1, none⟩) := hD.1
    clear hF hD
    have f0 : W.cell? ⟨b4, 1, none⟩ = some (.int .i64 (sz : Int)) := c3.cell 1
    go_simp
    exact hK _ _ rfl (Below.refl _ _)
  · refine Obl.guarded rfl _ rfl 6 true 40 rfl rfl [8, 10, 6] (by kernel_rfl) (fun a W hF hC hD => hD.2.2.1) fun a W hF hC hD K hK => ?_
    have e42 : a.tmps.getD 42 undef = .int .i64 (sz : Int) := hD.1
    have e44 : a.tmps.getD 44 undef = .int .i64 (sz : Int) := hD.2.1
    clear hF hD hC
    go_simp
    exact hK _ _ rfl (Below.refl _ _)
  · refine Obl.plain rfl _ rfl rfl [6, 11] (by kernel_rfl) fun a W hF hC hD K hK => ?_
    have e40 : a.tmps.getD 40 undef = .bool true := hD.1
    have e45 : a.tmps.getD 45 undef = .bool true := hD.2.1
    clear hF hD hC
    exact wp_pick (.tmp 40) (.tmp 45) (.const (.bool false)) rfl (b := true) e40 e45 (hK _ _ rfl (Below.refl _ _))
  · refine Obl.plain rfl _ rfl rfl [12, 8] (by kernel_rfl) fun a W hF hC hD K hK => ?_
    have e46 : a.tmps.getD 46 undef = .bool true := hD.1
    clear hF hD hC
    go_simp
    exact hK _ _ rfl (Below.refl _ _)
  · refine Obl.guarded rfl _ rfl 13 true 47 rfl rfl [13] (by kernel_rfl) (fun a W hF hC hD => hD.1) fun a W hF hC hD K hK => ?_
    have e3 : a.tmps.getD 3 undef = .pointer (some ⟨bf, 0, none⟩) := hF.1
    clear hF hD hC
    go_simp
    exact hK _ _ rfl (Below.refl _ _)
  · refine Obl.guarded rfl _ rfl 13 true 47 rfl rfl [13] (by kernel_rfl) (fun a W hF hC hD => hD.1) fun a W hF hC hD K hK => ?_
    have e1 : a.tmps.getD 1 undef = .pointer (some ⟨b1, 0, none⟩) := hF.2.2.1
    clear hF hD hC
    go_simp
    exact hK _ _ rfl (Below.refl _ _)
  · refine Obl.guarded rfl _ rfl 13 true 47 rfl rfl [15, 13] (by kernel_rfl) (fun a W hF hC hD => hD.2.1) fun a W hF hC hD K hK => ?_
    obtain ⟨c1, c2, c3, c4, c5, c6, c7⟩ := hC
    have e49 : a.tmps.getD 49 undef = .pointer (some ⟨b1, 1, none⟩) := hD.1
    clear hF hD
    exact wpAsk (.tmp 49) rfl c2 1 e49 rfl (hK _ _ rfl (Below.refl _ _))
  · refine Obl.guarded rfl _ rfl 13 true 47 rfl rfl [14, 16, 13, 13] (by kernel_rfl) (fun a W hF hC hD => hD.2.2.1) fun a W hF hC hD K hK => ?_
    obtain ⟨c1, c2, c3, c4, c5, c6, c7⟩ := hC
    have e48 : a.tmps.getD 48 undef = .pointer (some ⟨bf, 0, none⟩) := hD.1
    have e50 : a.tmps.getD 50 undef = vE (x) := hD.2.1
    clear hF hD
    exact wp_callV #[a.tmps.getD 48 undef, a.tmps.getD 50 undef] #[.pointer (some ⟨bf, 0, none⟩), vE (x)] (vE ((x) % P)) (by kernel_rfl) (by rw [e48, e50]) (freduce_c bf bm P n sz (x) W c1 Ha.out) fun w' hb => hK _ _ rfl hb
  · refine Obl.guarded rfl _ rfl 13 true 47 rfl rfl [13] (by kernel_rfl) (fun a W hF hC hD => hD.1) fun a W hF hC hD K hK => ?_
    have e7 : a.tmps.getD 7 undef = .slice A7 (digs B32 (x % P)).length ca := hF.2.2.2.1
    clear hF hD hC
    go_simp
    exact hK _ _ rfl (Below.refl _ _)
  · refine Obl.guarded rfl _ rfl 13 true 47 rfl rfl [18, 17, 13] (by kernel_rfl) (fun a W hF hC hD => hD.2.2.1) fun a W hF hC hD K hK => ?_
    obtain ⟨c1, c2, c3, c4, c5, c6, c7⟩ := hC
    have e52 : a.tmps.getD 52 undef = .slice A7 (digs B32 (x % P)).length ca := hD.1
    clear hF hD
    exact wp_callV #[a.tmps.getD 52 undef] #[.slice A7 (digs B32 (x % P)).length ca] (vE (x % P)) (by kernel_rfl) (by rw [e52]) (rnum_any A7 ca (x % P) W c5 hc7.out (mlt.out _)) (fun w' hb => hK _ _ rfl hb)
  · refine Obl.guarded rfl _ rfl 13 true 47 rfl rfl [17, 19, 13] (by kernel_rfl) (fun a W hF hC hD => hD.2.2.1) fun a W hF hC hD K hK => ?_
    have e51 : a.tmps.getD 51 undef = vE ((x) % P) := hD.1
    have e53 : a.tmps.getD 53 undef = vE (x % P) := hD.2.1
    clear hF hD hC
    have f0 := eqv_of (rfl : x % P = x % P)
    exact wp_eqlN (.tmp 51) (.tmp 53) _ rfl e51 e53 (hK _ _ (congrArg Value.bool f0) (Below.refl _ _))
  · refine Obl.plain rfl _ rfl rfl [13, 20] (by kernel_rfl) fun a W hF hC hD K hK => ?_
    have e47 : a.tmps.getD 47 undef = .bool true := hD.1
    have e54 : a.tmps.getD 54 undef = .bool true := hD.2.1
    clear hF hD hC
    exact wp_pick (.tmp 47) (.tmp 54) (.const (.bool false)) rfl (b := true) e47 e54 (hK _ _ rfl (Below.refl _ _))
  · refine Obl.plain rfl _ rfl rfl [21, 19] (by kernel_rfl) fun a W hF hC hD K hK => ?_
    have e55 : a.tmps.getD 55 undef = .bool true := hD.1
    clear hF hD hC
    go_simp
    exact hK _ _ rfl (Below.refl _ _)
  · refine Obl.guarded rfl _ rfl 22 true 56 rfl rfl [22] (by kernel_rfl) (fun a W hF hC hD => hD.1) fun a W hF hC hD K hK => ?_
    have e3 : a.tmps.getD 3 undef = .pointer (some ⟨bf, 0, none⟩) := hF.1
    clear hF hD hC
    go_simp
    exact hK _ _ rfl (Below.refl _ _)
  · refine Obl.guarded rfl _ rfl 22 true 56 rfl rfl [22] (by kernel_rfl) (fun a W hF hC hD => hD.1) fun a W hF hC hD K hK => ?_
    have e1 : a.tmps.getD 1 undef = .pointer (some ⟨b1, 0, none⟩) := hF.2.2.1
    clear hF hD hC
    go_simp
    exact hK _ _ rfl (Below.refl _ _)
  · refine Obl.guarded rfl _ rfl 22 true 56 rfl rfl [24, 22] (by kernel_rfl) (fun a W hF hC hD => hD.2.1) fun a W hF hC hD K hK => ?_
    obtain ⟨c1, c2, c3, c4, c5, c6, c7⟩ := hC
    have e58 : a.tmps.getD 58 undef = .pointer (some ⟨b1, 1, none⟩) := hD.1
    clear hF hD
    exact wpAsk (.tmp 58) rfl c2 1 e58 rfl (hK _ _ rfl (Below.refl _ _))
  · refine Obl.guarded rfl _ rfl 22 true 56 rfl rfl [22] (by kernel_rfl) (fun a W hF hC hD => hD.1) fun a W hF hC hD K hK => ?_
    have e1 : a.tmps.getD 1 undef = .pointer (some ⟨b1, 0, none⟩) := hF.2.2.1
    clear hF hD hC
    go_simp
    exact hK _ _ rfl (Below.refl _ _)
  · refine Obl.guarded rfl _ rfl 22 true 56 rfl rfl [26, 22] (by kernel_rfl) (fun a W hF hC hD => hD.2.1) fun a W hF hC hD K hK => ?_
    obtain ⟨c1, c2, c3, c4, c5, c6, c7⟩ := hC
    have e60 : a.tmps.getD 60 undef = .pointer (some ⟨b1, 7, none⟩) := hD.1
    clear hF hD
    exact wpAsk (.tmp 60) rfl c2 7 e60 rfl (hK _ _ rfl (Below.refl _ _))
  · refine Obl.guarded rfl _ rfl 22 true 56 rfl rfl [23, 25, 27, 22, 22] (by kernel_rfl) (fun a W hF hC hD => hD.2.2.2.1) fun a W hF hC hD K hK => ?_
    obtain ⟨c1, c2, c3, c4, c5, c6, c7⟩ := hC
    have e57 : a.tmps.getD 57 undef = .pointer (some ⟨bf, 0, none⟩) := hD.1
    have e59 : a.tmps.getD 59 undef = vE (x) := hD.2.1
    have e61 : a.tmps.getD 61 undef = vE (y) := hD.2.2.1
    clear hF hD
    exact wp_callV #[a.tmps.getD 57 undef, a.tmps.getD 59 undef, a.tmps.getD 61 undef] #[.pointer (some ⟨bf, 0, none⟩), vE (x), vE (y)] (vE (((x) + (y)) % P)) (by kernel_rfl) (by rw [e57, e59, e61]) (fadd_c bf bm P n sz (x) (y) W c1 Ha.out Hb'.out) fun w' hb => hK _ _ rfl hb
  · refine Obl.guarded rfl _ rfl 22 true 56 rfl rfl [22] (by kernel_rfl) (fun a W hF hC hD => hD.1) fun a W hF hC hD K hK => ?_
    obtain ⟨c1, c2, c3, c4, c5, c6, c7⟩ := hC
    have e4 : a.tmps.getD 4 undef = .pointer (some ⟨b4, 0, none⟩) := hF.2.1
    clear hF hD
    exact wp_load_mid 32 (.tmp 4) rfl b4 0 e4 (vF A P cp sz) _ (fun j v hj => by rw [Nat.zero_add, c3.cell, hj]) Try.underlying32 rfl (szVF _ _ _ _) (hK _ _ rfl (Below.refl _ _))
  · refine Obl.guarded rfl _ rfl 22 true 56 rfl rfl [22] (by kernel_rfl) (fun a W hF hC hD => hD.1) fun a W hF hC hD K hK => ?_
    have e7 : a.tmps.getD 7 undef = .slice A7 (digs B32 (x % P)).length ca := hF.2.2.2.1
    clear hF hD hC
    go_simp
    exact hK _ _ rfl (Below.refl _ _)
  · refine Obl.guarded rfl _ rfl 22 true 56 rfl rfl [22] (by kernel_rfl) (fun a W hF hC hD => hD.1) fun a W hF hC hD K hK => ?_
    have e8 : a.tmps.getD 8 undef = .slice A8 (digs B32 (y % P)).length cb := hF.2.2.2.2.1
    clear hF hD hC
    go_simp
    exact hK _ _ rfl (Below.refl _ _)
  · refine Obl.guarded rfl _ rfl 22 true 56 rfl rfl [29, 30, 31, 28, 22] (by kernel_rfl) (fun a W hF hC hD => hD.2.2.2.2.1) fun a W hF hC hD K hK => ?_
    obtain ⟨c1, c2, c3, c4, c5, c6, c7⟩ := hC
    have e63 : a.tmps.getD 63 undef = .agg (vF A P cp sz).toArray := hD.1
    have e64 : a.tmps.getD 64 undef = .slice A7 (digs B32 (x % P)).length ca := hD.2.1
    have e65 : a.tmps.getD 65 undef = .slice A8 (digs B32 (y % P)).length cb := hD.2.2.1
    clear hF hD
    exact wp_callS #[a.tmps.getD 63 undef, a.tmps.getD 64 undef, a.tmps.getD 65 undef] #[.agg (vF A P cp sz).toArray, .slice A7 (digs B32 (x % P)).length ca, .slice A8 (digs B32 (y % P)).length cb] (by kernel_rfl) (by rw [e63, e64, e65]) (radd_any A A7 A8 P cp sz ca cb (x % P) (y % P) W c4 hcp.out HP32.out c5 hc7.out c6 hc8.out hxP.out hyP.out) (fun v w' h hb => hK _ _ h hb)
  · refine Obl.guarded rfl _ rfl 22 true 56 rfl rfl [32, 32, 22] (by kernel_rfl) (fun a W hF hC hD => hD.2.2.1) fun a W hF hC hD K hK => ?_
    have e66 : (fun (v : Value) (w : World) => SlIs .u32 (digs B32 ((x % P + y % P) % P)) v w) (a.tmps.getD 66 undef) W := hD.1
    clear hF hD hC
    obtain ⟨Aq, cq, qq, hcq, hrq⟩ := e66
    exact wp_callV #[a.tmps.getD 66 undef] #[.slice Aq (digs B32 ((x % P + y % P) % P)).length cq] (vE ((x % P + y % P) % P)) (by kernel_rfl) (by rw [qq]) (rnum_any Aq cq ((x % P + y % P) % P) W hrq hcq (mlt.out _)) (fun w' hb => hK _ _ rfl hb)
  · refine Obl.guarded rfl _ rfl 22 true 56 rfl rfl [28, 33, 22] (by kernel_rfl) (fun a W hF hC hD => hD.2.2.1) fun a W hF hC hD K hK => ?_
    have e62 : a.tmps.getD 62 undef = vE (((x) + (y)) % P) := hD.1
    have e67 : a.tmps.getD 67 undef = vE ((x % P + y % P) % P) := hD.2.1
    clear hF hD hC
    have f0 := eqv_of (pl_sum P x y)
    exact wp_eqlN (.tmp 62) (.tmp 67) _ rfl e62 e67 (hK _ _ (congrArg Value.bool f0) (Below.refl _ _))
  · refine Obl.plain rfl _ rfl rfl [22, 34] (by kernel_rfl) fun a W hF hC hD K hK => ?_
    have e56 : a.tmps.getD 56 undef = .bool true := hD.1
    have e68 : a.tmps.getD 68 undef = .bool true := hD.2.1
    clear hF hD hC
    exact wp_pick (.tmp 56) (.tmp 68) (.const (.bool false)) rfl (b := true) e56 e68 (hK _ _ rfl (Below.refl _ _))
  · refine Obl.plain rfl _ rfl rfl [35, 33] (by kernel_rfl) fun a W hF hC hD K hK => ?_
    have e69 : a.tmps.getD 69 undef = .bool true := hD.1
    clear hF hD hC
    go_simp
    exact hK _ _ rfl (Below.refl _ _)
  · refine Obl.guarded rfl _ rfl 36 true 70 rfl rfl [36] (by kernel_rfl) (fun a W hF hC hD => hD.1) fun a W hF hC hD K hK => ?_
    have e3 : a.tmps.getD 3 undef = .pointer (some ⟨bf, 0, none⟩) := hF.1
    clear hF hD hC
    go_simp
    exact hK _ _ rfl (Below.refl _ _)
  · refine Obl.guarded rfl _ rfl 36 true 70 rfl rfl [36] (by kernel_rfl) (fun a W hF hC hD => hD.1) fun a W hF hC hD K hK => ?_
    have e1 : a.tmps.getD 1 undef = .pointer (some ⟨b1, 0, none⟩) := hF.2.2.1
    clear hF hD hC
    go_simp
    exact hK _ _ rfl (Below.refl _ _)
  · refine Obl.guarded rfl _ rfl 36 true 70 rfl rfl [38, 36] (by kernel_rfl) (fun a W hF hC hD => hD.2.1) fun a W hF hC hD K hK => ?_
    obtain ⟨c1, c2, c3, c4, c5, c6, c7⟩ := hC
    have e72 : a.tmps.getD 72 undef = .pointer (some ⟨b1, 1, none⟩) := hD.1
    clear hF hD
    exact wpAsk (.tmp 72) rfl c2 1 e72 rfl (hK _ _ rfl (Below.refl _ _))
  · refine Obl.guarded rfl _ rfl 36 true 70 rfl rfl [36] (by kernel_rfl) (fun a W hF hC hD => hD.1) fun a W hF hC hD K hK => ?_
    have e1 : a.tmps.getD 1 undef = .pointer (some ⟨b1, 0, none⟩) := hF.2.2.1
    clear hF hD hC
    go_simp
    exact hK _ _ rfl (Below.refl _ _)
  · refine Obl.guarded rfl _ rfl 36 true 70 rfl rfl [40, 36] (by kernel_rfl) (fun a W hF hC hD => hD.2.1) fun a W hF hC hD K hK => ?_
    obtain ⟨c1, c2, c3, c4, c5, c6, c7⟩ := hC
    have e74 : a.tmps.getD 74 undef = .pointer (some ⟨b1, 7, none⟩) := hD.1
    clear hF hD
    exact wpAsk (.tmp 74) rfl c2 7 e74 rfl (hK _ _ rfl (Below.refl _ _))
  · refine Obl.guarded rfl _ rfl 36 true 70 rfl rfl [37, 39, 41, 36, 36] (by kernel_rfl) (fun a W hF hC hD => hD.2.2.2.1) fun a W hF hC hD K hK => ?_
    obtain ⟨c1, c2, c3, c4, c5, c6, c7⟩ := hC
    have e71 : a.tmps.getD 71 undef = .pointer (some ⟨bf, 0, none⟩) := hD.1
    have e73 : a.tmps.getD 73 undef = vE (x) := hD.2.1
    have e75 : a.tmps.getD 75 undef = vE (y) := hD.2.2.1
    clear hF hD
    exact wp_callV #[a.tmps.getD 71 undef, a.tmps.getD 73 undef, a.tmps.getD 75 undef] #[.pointer (some ⟨bf, 0, none⟩), vE (x), vE (y)] (vE (((x) + ng P (y)) % P)) (by kernel_rfl) (by rw [e71, e73, e75]) (fsub_c bf bm P n sz (x) (y) W c1 Ha.out Hb'.out) fun w' hb => hK _ _ rfl hb
  · refine Obl.guarded rfl _ rfl 36 true 70 rfl rfl [36] (by kernel_rfl) (fun a W hF hC hD => hD.1) fun a W hF hC hD K hK => ?_
    obtain ⟨c1, c2, c3, c4, c5, c6, c7⟩ := hC
    have e4 : a.tmps.getD 4 undef = .pointer (some ⟨b4, 0, none⟩) := hF.2.1
    clear hF hD
    exact wp_load_mid 32 (.tmp 4) rfl b4 0 e4 (vF A P cp sz) _ (fun j v hj => by rw [Nat.zero_add, c3.cell, hj]) Try.underlying32 rfl (szVF _ _ _ _) (hK _ _ rfl (Below.refl _ _))
  · refine Obl.guarded rfl _ rfl 36 true 70 rfl rfl [36] (by kernel_rfl) (fun a W hF hC hD => hD.1) fun a W hF hC hD K hK => ?_
    have e7 : a.tmps.getD 7 undef = .slice A7 (digs B32 (x % P)).length ca := hF.2.2.2.1
    clear hF hD hC
    go_simp
    exact hK _ _ rfl (Below.refl _ _)
  · refine Obl.guarded rfl _ rfl 36 true 70 rfl rfl [36] (by kernel_rfl) (fun a W hF hC hD => hD.1) fun a W hF hC hD K hK => ?_
    have e8 : a.tmps.getD 8 undef = .slice A8 (digs B32 (y % P)).length cb := hF.2.2.2.2.1
    clear hF hD hC
    go_simp
    exact hK _ _ rfl (Below.refl _ _)
  · refine Obl.guarded rfl _ rfl 36 true 70 rfl rfl [43, 44, 45, 42, 36] (by kernel_rfl) (fun a W hF hC hD => hD.2.2.2.2.1) fun a W hF hC hD K hK => ?_
    obtain ⟨c1, c2, c3, c4, c5, c6, c7⟩ := hC
    have e77 : a.tmps.getD 77 undef = .agg (vF A P cp sz).toArray := hD.1
    have e78 : a.tmps.getD 78 undef = .slice A7 (digs B32 (x % P)).length ca := hD.2.1
    have e79 : a.tmps.getD 79 undef = .slice A8 (digs B32 (y % P)).length cb := hD.2.2.1
    clear hF hD
    exact wp_callS #[a.tmps.getD 77 undef, a.tmps.getD 78 undef, a.tmps.getD 79 undef] #[.agg (vF A P cp sz).toArray, .slice A7 (digs B32 (x % P)).length ca, .slice A8 (digs B32 (y % P)).length cb] (by kernel_rfl) (by rw [e77, e78, e79]) (rsub_any A A7 A8 P cp sz ca cb (x % P) (y % P) W c4 hcp.out HP32.out c5 hc7.out c6 hc8.out hxP.out hyP.out) (fun v w' h hb => hK _ _ h hb)
  · refine Obl.guarded rfl _ rfl 36 true 70 rfl rfl [46, 46, 36] (by kernel_rfl) (fun a W hF hC hD => hD.2.2.1) fun a W hF hC hD K hK => ?_
    have e80 : (fun (v : Value) (w : World) => SlIs .u32 (digs B32 ((x % P + ng P (y % P) % P) % P)) v w) (a.tmps.getD 80 undef) W := hD.1
    clear hF hD hC
    obtain ⟨Aq, cq, qq, hcq, hrq⟩ := e80
    exact wp_callV #[a.tmps.getD 80 undef] #[.slice Aq (digs B32 ((x % P + ng P (y % P) % P) % P)).length cq] (vE ((x % P + ng P (y % P) % P) % P)) (by kernel_rfl) (by rw [qq]) (rnum_any Aq cq ((x % P + ng P (y % P) % P) % P) W hrq hcq (mlt.out _)) (fun w' hb => hK _ _ rfl hb)
  · refine Obl.guarded rfl _ rfl 36 true 70 rfl rfl [42, 47, 36] (by kernel_rfl) (fun a W hF hC hD => hD.2.2.1) fun a W hF hC hD K hK => ?_
    have e76 : a.tmps.getD 76 undef = vE (((x) + ng P (y)) % P) := hD.1
    have e81 : a.tmps.getD 81 undef = vE ((x % P + ng P (y % P) % P) % P) := hD.2.1
    clear hF hD hC
    have f0 := eqv_of (pl_dif P x y)
    exact wp_eqlN (.tmp 76) (.tmp 81) _ rfl e76 e81 (hK _ _ (congrArg Value.bool f0) (Below.refl _ _))
  · refine Obl.plain rfl _ rfl rfl [36, 48] (by kernel_rfl) fun a W hF hC hD K hK => ?_
    have e70 : a.tmps.getD 70 undef = .bool true := hD.1
    have e82 : a.tmps.getD 82 undef = .bool true := hD.2.1
    clear hF hD hC
    exact wp_pick (.tmp 70) (.tmp 82) (.const (.bool false)) rfl (b := true) e70 e82 (hK _ _ rfl (Below.refl _ _))
  · refine Obl.plain rfl _ rfl rfl [49, 47] (by kernel_rfl) fun a W hF hC hD K hK => ?_
    have e83 : a.tmps.getD 83 undef = .bool true := hD.1
    clear hF hD hC
    go_simp
    exact hK _ _ rfl (Below.refl _ _)
  · refine Obl.guarded rfl _ rfl 50 true 84 rfl rfl [50] (by kernel_rfl) (fun a W hF hC hD => hD.1) fun a W hF hC hD K hK => ?_
    have e3 : a.tmps.getD 3 undef = .pointer (some ⟨bf, 0, none⟩) := hF.1
    clear hF hD hC
    go_simp
    exact hK _ _ rfl (Below.refl _ _)
  · refine Obl.guarded rfl _ rfl 50 true 84 rfl rfl [50] (by kernel_rfl) (fun a W hF hC hD => hD.1) fun a W hF hC hD K hK => ?_
    have e1 : a.tmps.getD 1 undef = .pointer (some ⟨b1, 0, none⟩) := hF.2.2.1
    clear hF hD hC
    go_simp
    exact hK _ _ rfl (Below.refl _ _)
  · refine Obl.guarded rfl _ rfl 50 true 84 rfl rfl [52, 50] (by kernel_rfl) (fun a W hF hC hD => hD.2.1) fun a W hF hC hD K hK => ?_
    obtain ⟨c1, c2, c3, c4, c5, c6, c7⟩ := hC
    have e86 : a.tmps.getD 86 undef = .pointer (some ⟨b1, 1, none⟩) := hD.1
    clear hF hD
    exact wpAsk (.tmp 86) rfl c2 1 e86 rfl (hK _ _ rfl (Below.refl _ _))
  · refine Obl.guarded rfl _ rfl 50 true 84 rfl rfl [51, 53, 50, 50] (by kernel_rfl) (fun a W hF hC hD => hD.2.2.1) fun a W hF hC hD K hK => ?_
    obtain ⟨c1, c2, c3, c4, c5, c6, c7⟩ := hC
    have e85 : a.tmps.getD 85 undef = .pointer (some ⟨bf, 0, none⟩) := hD.1
    have e87 : a.tmps.getD 87 undef = vE (x) := hD.2.1
    clear hF hD
    exact wp_callV #[a.tmps.getD 85 undef, a.tmps.getD 87 undef] #[.pointer (some ⟨bf, 0, none⟩), vE (x)] (vE (ng P (x) % P)) (by kernel_rfl) (by rw [e85, e87]) (fneg_c bf bm P n sz (x) W c1 Ha.out) fun w' hb => hK _ _ rfl hb
  · refine Obl.guarded rfl _ rfl 50 true 84 rfl rfl [50] (by kernel_rfl) (fun a W hF hC hD => hD.1) fun a W hF hC hD K hK => ?_
    obtain ⟨c1, c2, c3, c4, c5, c6, c7⟩ := hC
    have e4 : a.tmps.getD 4 undef = .pointer (some ⟨b4, 0, none⟩) := hF.2.1
    clear hF hD
    exact wp_load_mid 32 (.tmp 4) rfl b4 0 e4 (vF A P cp sz) _ (fun j v hj => by rw [Nat.zero_add, c3.cell, hj]) Try.underlying32 rfl (szVF _ _ _ _) (hK _ _ rfl (Below.refl _ _))
  · refine Obl.guarded rfl _ rfl 50 true 84 rfl rfl [50] (by kernel_rfl) (fun a W hF hC hD => hD.1) fun a W hF hC hD K hK => ?_
    have e7 : a.tmps.getD 7 undef = .slice A7 (digs B32 (x % P)).length ca := hF.2.2.2.1
    clear hF hD hC
    go_simp
    exact hK _ _ rfl (Below.refl _ _)
  · refine Obl.guarded rfl _ rfl 50 true 84 rfl rfl [55, 56, 54, 50] (by kernel_rfl) (fun a W hF hC hD => hD.2.2.2.1) fun a W hF hC hD K hK => ?_
    obtain ⟨c1, c2, c3, c4, c5, c6, c7⟩ := hC
    have e89 : a.tmps.getD 89 undef = .agg (vF A P cp sz).toArray := hD.1
    have e90 : a.tmps.getD 90 undef = .slice A7 (digs B32 (x % P)).length ca := hD.2.1
    clear hF hD
    exact wp_callS #[a.tmps.getD 89 undef, a.tmps.getD 90 undef] #[.agg (vF A P cp sz).toArray, .slice A7 (digs B32 (x % P)).length ca] (by kernel_rfl) (by rw [e89, e90]) (rneg_any A A7 P cp sz ca (x % P) W c4 hcp.out HP32.out c5 hc7.out hxP.out) (fun v w' h hb => hK _ _ h hb)
  · refine Obl.guarded rfl _ rfl 50 true 84 rfl rfl [57, 57, 50] (by kernel_rfl) (fun a W hF hC hD => hD.2.2.1) fun a W hF hC hD K hK => ?_
    have e91 : (fun (v : Value) (w : World) => SlIs .u32 (digs B32 (ng P (x % P) % P)) v w) (a.tmps.getD 91 undef) W := hD.1
    clear hF hD hC
    obtain ⟨Aq, cq, qq, hcq, hrq⟩ := e91
    exact wp_callV #[a.tmps.getD 91 undef] #[.slice Aq (digs B32 (ng P (x % P) % P)).length cq] (vE (ng P (x % P) % P)) (by kernel_rfl) (by rw [qq]) (rnum_any Aq cq (ng P (x % P) % P) W hrq hcq (mlt.out _)) (fun w' hb => hK _ _ rfl hb)
  · refine Obl.guarded rfl _ rfl 50 true 84 rfl rfl [54, 58, 50] (by kernel_rfl) (fun a W hF hC hD => hD.2.2.1) fun a W hF hC hD K hK => ?_
    have e88 : a.tmps.getD 88 undef = vE (ng P (x) % P) := hD.1
    have e92 : a.tmps.getD 92 undef = vE (ng P (x % P) % P) := hD.2.1
    clear hF hD hC
    have f0 := eqv_of (pl_les P x)
    exact wp_eqlN (.tmp 88) (.tmp 92) _ rfl e88 e92 (hK _ _ (congrArg Value.bool f0) (Below.refl _ _))
  · refine Obl.plain rfl _ rfl rfl [50, 59] (by kernel_rfl) fun a W hF hC hD K hK => ?_
    have e84 : a.tmps.getD 84 undef = .bool true := hD.1
    have e93 : a.tmps.getD 93 undef = .bool true := hD.2.1
    clear hF hD hC
    exact wp_pick (.tmp 84) (.tmp 93) (.const (.bool false)) rfl (b := true) e84 e93 (hK _ _ rfl (Below.refl _ _))
  · refine Obl.plain rfl _ rfl rfl [60, 58] (by kernel_rfl) fun a W hF hC hD K hK => ?_
    have e94 : a.tmps.getD 94 undef = .bool true := hD.1
    clear hF hD hC
    go_simp
    exact hK _ _ rfl (Below.refl _ _)
  · refine Obl.guarded rfl _ rfl 61 true 95 rfl rfl [61] (by kernel_rfl) (fun a W hF hC hD => hD.1) fun a W hF hC hD K hK => ?_
    have e3 : a.tmps.getD 3 undef = .pointer (some ⟨bf, 0, none⟩) := hF.1
    clear hF hD hC
    go_simp
    exact hK _ _ rfl (Below.refl _ _)
  · refine Obl.guarded rfl _ rfl 61 true 95 rfl rfl [61] (by kernel_rfl) (fun a W hF hC hD => hD.1) fun a W hF hC hD K hK => ?_
    have e1 : a.tmps.getD 1 undef = .pointer (some ⟨b1, 0, none⟩) := hF.2.2.1
    clear hF hD hC
    go_simp
    exact hK _ _ rfl (Below.refl _ _)
  · refine Obl.guarded rfl _ rfl 61 true 95 rfl rfl [63, 61] (by kernel_rfl) (fun a W hF hC hD => hD.2.1) fun a W hF hC hD K hK => ?_
    obtain ⟨c1, c2, c3, c4, c5, c6, c7⟩ := hC
    have e97 : a.tmps.getD 97 undef = .pointer (some ⟨b1, 1, none⟩) := hD.1
    clear hF hD
    exact wpAsk (.tmp 97) rfl c2 1 e97 rfl (hK _ _ rfl (Below.refl _ _))
  · refine Obl.guarded rfl _ rfl 61 true 95 rfl rfl [61] (by kernel_rfl) (fun a W hF hC hD => hD.1) fun a W hF hC hD K hK => ?_
    have e1 : a.tmps.getD 1 undef = .pointer (some ⟨b1, 0, none⟩) := hF.2.2.1
    clear hF hD hC
    go_simp
    exact hK _ _ rfl (Below.refl _ _)
  · refine Obl.guarded rfl _ rfl 61 true 95 rfl rfl [65, 61] (by kernel_rfl) (fun a W hF hC hD => hD.2.1) fun a W hF hC hD K hK => ?_
    obtain ⟨c1, c2, c3, c4, c5, c6, c7⟩ := hC
    have e99 : a.tmps.getD 99 undef = .pointer (some ⟨b1, 7, none⟩) := hD.1
    clear hF hD
    exact wpAsk (.tmp 99) rfl c2 7 e99 rfl (hK _ _ rfl (Below.refl _ _))
  · refine Obl.guarded rfl _ rfl 61 true 95 rfl rfl [62, 64, 66, 61, 61] (by kernel_rfl) (fun a W hF hC hD => hD.2.2.2.1) fun a W hF hC hD K hK => ?_
    obtain ⟨c1, c2, c3, c4, c5, c6, c7⟩ := hC
    have e96 : a.tmps.getD 96 undef = .pointer (some ⟨bf, 0, none⟩) := hD.1
    have e98 : a.tmps.getD 98 undef = vE (x) := hD.2.1
    have e100 : a.tmps.getD 100 undef = vE (y) := hD.2.2.1
    clear hF hD
    exact wp_callV #[a.tmps.getD 96 undef, a.tmps.getD 98 undef, a.tmps.getD 100 undef] #[.pointer (some ⟨bf, 0, none⟩), vE (x), vE (y)] (vE ((x) * (y) % P)) (by kernel_rfl) (by rw [e96, e98, e100]) (fmul_c bf bm P n sz (x) (y) W c1 Ha.out Hb'.out) fun w' hb => hK _ _ rfl hb
  · refine Obl.guarded rfl _ rfl 61 true 95 rfl rfl [61] (by kernel_rfl) (fun a W hF hC hD => hD.1) fun a W hF hC hD K hK => ?_
    obtain ⟨c1, c2, c3, c4, c5, c6, c7⟩ := hC
    have e4 : a.tmps.getD 4 undef = .pointer (some ⟨b4, 0, none⟩) := hF.2.1
    clear hF hD
    exact wp_load_mid 32 (.tmp 4) rfl b4 0 e4 (vF A P cp sz) _ (fun j v hj => by rw [Nat.zero_add, c3.cell, hj]) Try.underlying32 rfl (szVF _ _ _ _) (hK _ _ rfl (Below.refl _ _))
  · refine Obl.guarded rfl _ rfl 61 true 95 rfl rfl [61] (by kernel_rfl) (fun a W hF hC hD => hD.1) fun a W hF hC hD K hK => ?_
    have e7 : a.tmps.getD 7 undef = .slice A7 (digs B32 (x % P)).length ca := hF.2.2.2.1
    clear hF hD hC
    go_simp
    exact hK _ _ rfl (Below.refl _ _)
  · refine Obl.guarded rfl _ rfl 61 true 95 rfl rfl [61] (by kernel_rfl) (fun a W hF hC hD => hD.1) fun a W hF hC hD K hK => ?_
    have e8 : a.tmps.getD 8 undef = .slice A8 (digs B32 (y % P)).length cb := hF.2.2.2.2.1
    clear hF hD hC
    go_simp
    exact hK _ _ rfl (Below.refl _ _)
  · refine Obl.guarded rfl _ rfl 61 true 95 rfl rfl [68, 69, 70, 67, 61] (by kernel_rfl) (fun a W hF hC hD => hD.2.2.2.2.1) fun a W hF hC hD K hK => ?_
    obtain ⟨c1, c2, c3, c4, c5, c6, c7⟩ := hC
    have e102 : a.tmps.getD 102 undef = .agg (vF A P cp sz).toArray := hD.1
    have e103 : a.tmps.getD 103 undef = .slice A7 (digs B32 (x % P)).length ca := hD.2.1
    have e104 : a.tmps.getD 104 undef = .slice A8 (digs B32 (y % P)).length cb := hD.2.2.1
    clear hF hD
    exact wp_callS #[a.tmps.getD 102 undef, a.tmps.getD 103 undef, a.tmps.getD 104 undef] #[.agg (vF A P cp sz).toArray, .slice A7 (digs B32 (x % P)).length ca, .slice A8 (digs B32 (y % P)).length cb] (by kernel_rfl) (by rw [e102, e103, e104]) (rmul_any A A7 A8 P cp sz ca cb (x % P) (y % P) W c4 hcp.out (Nat.le_trans HPl.out (by decide)) hP0.out c5 hc7.out c6 hc8.out (Nat.le_trans hzl.out (by decide)) (Nat.lt_of_le_of_lt hxl.out (by decide)) (Nat.lt_of_le_of_lt hyl.out (by decide))) (fun v w' h hb => hK _ _ h hb)
  · refine Obl.guarded rfl _ rfl 61 true 95 rfl rfl [71, 71, 61] (by kernel_rfl) (fun a W hF hC hD => hD.2.2.1) fun a W hF hC hD K hK => ?_
    have e105 : (fun (v : Value) (w : World) => SlIs .u32 (digs B32 (x % P * (y % P) % P)) v w) (a.tmps.getD 105 undef) W := hD.1
    clear hF hD hC
    obtain ⟨Aq, cq, qq, hcq, hrq⟩ := e105
    exact wp_callV #[a.tmps.getD 105 undef] #[.slice Aq (digs B32 (x % P * (y % P) % P)).length cq] (vE (x % P * (y % P) % P)) (by kernel_rfl) (by rw [qq]) (rnum_any Aq cq (x % P * (y % P) % P) W hrq hcq (mlt.out _)) (fun w' hb => hK _ _ rfl hb)
  · refine Obl.guarded rfl _ rfl 61 true 95 rfl rfl [67, 72, 61] (by kernel_rfl) (fun a W hF hC hD => hD.2.2.1) fun a W hF hC hD K hK => ?_
    have e101 : a.tmps.getD 101 undef = vE ((x) * (y) % P) := hD.1
    have e106 : a.tmps.getD 106 undef = vE (x % P * (y % P) % P) := hD.2.1
    clear hF hD hC
    have f0 := eqv_of (pl_prd P x y)
    exact wp_eqlN (.tmp 101) (.tmp 106) _ rfl e101 e106 (hK _ _ (congrArg Value.bool f0) (Below.refl _ _))
  · refine Obl.plain rfl _ rfl rfl [61, 73] (by kernel_rfl) fun a W hF hC hD K hK => ?_
    have e95 : a.tmps.getD 95 undef = .bool true := hD.1
    have e107 : a.tmps.getD 107 undef = .bool true := hD.2.1
    clear hF hD hC
    exact wp_pick (.tmp 95) (.tmp 107) (.const (.bool false)) rfl (b := true) e95 e107 (hK _ _ rfl (Below.refl _ _))
  · refine Obl.plain rfl _ rfl rfl [74, 72] (by kernel_rfl) fun a W hF hC hD K hK => ?_
    have e108 : a.tmps.getD 108 undef = .bool true := hD.1
    clear hF hD hC
    go_simp
    exact hK _ _ rfl (Below.refl _ _)
  · refine Obl.guarded rfl _ rfl 75 true 109 rfl rfl [75] (by kernel_rfl) (fun a W hF hC hD => hD.1) fun a W hF hC hD K hK => ?_
    have e3 : a.tmps.getD 3 undef = .pointer (some ⟨bf, 0, none⟩) := hF.1
    clear hF hD hC
    go_simp
    exact hK _ _ rfl (Below.refl _ _)
  · refine Obl.guarded rfl _ rfl 75 true 109 rfl rfl [75] (by kernel_rfl) (fun a W hF hC hD => hD.1) fun a W hF hC hD K hK => ?_
    have e1 : a.tmps.getD 1 undef = .pointer (some ⟨b1, 0, none⟩) := hF.2.2.1
    clear hF hD hC
    go_simp
    exact hK _ _ rfl (Below.refl _ _)
  · refine Obl.guarded rfl _ rfl 75 true 109 rfl rfl [77, 75] (by kernel_rfl) (fun a W hF hC hD => hD.2.1) fun a W hF hC hD K hK => ?_
    obtain ⟨c1, c2, c3, c4, c5, c6, c7⟩ := hC
    have e111 : a.tmps.getD 111 undef = .pointer (some ⟨b1, 1, none⟩) := hD.1
    clear hF hD
    exact wpAsk (.tmp 111) rfl c2 1 e111 rfl (hK _ _ rfl (Below.refl _ _))
  · refine Obl.guarded rfl _ rfl 75 true 109 rfl rfl [75] (by kernel_rfl) (fun a W hF hC hD => hD.1) fun a W hF hC hD K hK => ?_
    have e9 : a.tmps.getD 9 undef = .slice Ae le.length cet := hF.2.2.2.2.2.1
    clear hF hD hC
    go_simp
    exact hK _ _ rfl (Below.refl _ _)
  · refine Obl.guarded rfl _ rfl 75 true 109 rfl rfl [79, 75, 75] (by kernel_rfl) (fun a W hF hC hD => hD.2.1) fun a W hF hC hD K hK => ?_
    obtain ⟨c1, c2, c3, c4, c5, c6, c7⟩ := hC
    have e113 : a.tmps.getD 113 undef = .slice Ae le.length cet := hD.1
    clear hF hD
    exact wp_callS #[a.tmps.getD 113 undef, .int .i64 20] #[.slice Ae le.length cet, .int .i64 20] (by kernel_rfl) (by rw [e113]) (Htw.out W c7) (fun v w' h hb => hK _ _ h hb)
  · refine Obl.guarded rfl _ rfl 75 true 109 rfl rfl [76, 78, 80, 80, 75] (by kernel_rfl) (fun a W hF hC hD => hD.2.2.2.2.1) fun a W hF hC hD K hK => ?_
    obtain ⟨c1, c2, c3, c4, c5, c6, c7⟩ := hC
    have e110 : a.tmps.getD 110 undef = .pointer (some ⟨bf, 0, none⟩) := hD.1
    have e112 : a.tmps.getD 112 undef = vE (x) := hD.2.1
    have e114 : (fun (v : Value) (w : World) => SlIs .u8 le v w) (a.tmps.getD 114 undef) W := hD.2.2.1
    clear hF hD
    obtain ⟨Aq, cq, qq, hcq, hrq⟩ := e114
    exact wp_callV #[a.tmps.getD 110 undef, a.tmps.getD 112 undef, a.tmps.getD 114 undef] #[.pointer (some ⟨bf, 0, none⟩), vE x, .slice Aq le.length cq] (vE (x ^ ev % P)) (by kernel_rfl) (by rw [e110, e112, qq]) (Hxe.out Aq cq W c1 hrq hcq) (fun w' hb => hK _ _ rfl hb)
  · refine Obl.guarded rfl _ rfl 75 true 109 rfl rfl [75] (by kernel_rfl) (fun a W hF hC hD => hD.1) fun a W hF hC hD K hK => ?_
    obtain ⟨c1, c2, c3, c4, c5, c6, c7⟩ := hC
    have e4 : a.tmps.getD 4 undef = .pointer (some ⟨b4, 0, none⟩) := hF.2.1
    clear hF hD
    exact wp_load_mid 32 (.tmp 4) rfl b4 0 e4 (vF A P cp sz) _ (fun j v hj => by rw [Nat.zero_add, c3.cell, hj]) Try.underlying32 rfl (szVF _ _ _ _) (hK _ _ rfl (Below.refl _ _))
  · refine Obl.guarded rfl _ rfl 75 true 109 rfl rfl [75] (by kernel_rfl) (fun a W hF hC hD => hD.1) fun a W hF hC hD K hK => ?_
    have e7 : a.tmps.getD 7 undef = .slice A7 (digs B32 (x % P)).length ca := hF.2.2.2.1
    clear hF hD hC
    go_simp
    exact hK _ _ rfl (Below.refl _ _)
  · refine Obl.guarded rfl _ rfl 75 true 109 rfl rfl [75] (by kernel_rfl) (fun a W hF hC hD => hD.1) fun a W hF hC hD K hK => ?_
    have e9 : a.tmps.getD 9 undef = .slice Ae le.length cet := hF.2.2.2.2.2.1
    clear hF hD hC
    go_simp
    exact hK _ _ rfl (Below.refl _ _)
  · refine Obl.guarded rfl _ rfl 75 true 109 rfl rfl [84, 81, 75] (by kernel_rfl) (fun a W hF hC hD => hD.2.2.1) fun a W hF hC hD K hK => ?_
    obtain ⟨c1, c2, c3, c4, c5, c6, c7⟩ := hC
    have e118 : a.tmps.getD 118 undef = .slice Ae le.length cet := hD.1
    clear hF hD
    exact wp_callS #[a.tmps.getD 118 undef] #[.slice Ae le.length cet] (by kernel_rfl) (by rw [e118]) (Hfr.out W c7) (fun v w' h hb => hK _ _ h hb)
  · refine Obl.guarded rfl _ rfl 75 true 109 rfl rfl [82, 83, 85, 85, 75] (by kernel_rfl) (fun a W hF hC hD => hD.2.2.2.2.1) fun a W hF hC hD K hK => ?_
    obtain ⟨c1, c2, c3, c4, c5, c6, c7⟩ := hC
    have e116 : a.tmps.getD 116 undef = .agg (vF A P cp sz).toArray := hD.1
    have e117 : a.tmps.getD 117 undef = .slice A7 (digs B32 (x % P)).length ca := hD.2.1
    have e119 : (fun (v : Value) (w : World) => SlIs .u32 (digs B32 ev) v w) (a.tmps.getD 119 undef) W := hD.2.2.1
    clear hF hD
    obtain ⟨Aq, cq, qq, hcq, hrq⟩ := e119
    exact wp_callS #[a.tmps.getD 116 undef, a.tmps.getD 117 undef, a.tmps.getD 119 undef] #[.agg (vF A P cp sz).toArray, .slice A7 (digs B32 (x % P)).length ca, .slice Aq (digs B32 ev).length cq] (by kernel_rfl) (by rw [e116, e117, qq]) (rexp_any A A7 Aq P cp sz ca cq (x % P) ev W c4 hcp.out HP32.out hP0.out c5 hc7.out hxl.out hrq hcq (Nat.le_trans Hevl.out (by decide))) (fun v w' h hb => hK _ _ h hb)
  · refine Obl.guarded rfl _ rfl 75 true 109 rfl rfl [86, 86, 75] (by kernel_rfl) (fun a W hF hC hD => hD.2.2.1) fun a W hF hC hD K hK => ?_
    have e120 : (fun (v : Value) (w : World) => SlIs .u32 (digs B32 ((x % P) ^ ev % P)) v w) (a.tmps.getD 120 undef) W := hD.1
    clear hF hD hC
    obtain ⟨Aq, cq, qq, hcq, hrq⟩ := e120
    exact wp_callV #[a.tmps.getD 120 undef] #[.slice Aq (digs B32 ((x % P) ^ ev % P)).length cq] (vE ((x % P) ^ ev % P)) (by kernel_rfl) (by rw [qq]) (rnum_any Aq cq ((x % P) ^ ev % P) W hrq hcq (mlt.out _)) (fun w' hb => hK _ _ rfl hb)
  · refine Obl.guarded rfl _ rfl 75 true 109 rfl rfl [81, 87, 75] (by kernel_rfl) (fun a W hF hC hD => hD.2.2.1) fun a W hF hC hD K hK => ?_
    have e115 : a.tmps.getD 115 undef = vE (x ^ ev % P) := hD.1
    have e121 : a.tmps.getD 121 undef = vE ((x % P) ^ ev % P) := hD.2.1
    clear hF hD hC
    have f0 := eqv_of (pl_pwr P x ev)
    exact wp_eqlN (.tmp 115) (.tmp 121) _ rfl e115 e121 (hK _ _ (congrArg Value.bool f0) (Below.refl _ _))
  · refine Obl.plain rfl _ rfl rfl [75, 88] (by kernel_rfl) fun a W hF hC hD K hK => ?_
    have e109 : a.tmps.getD 109 undef = .bool true := hD.1
    have e122 : a.tmps.getD 122 undef = .bool true := hD.2.1
    clear hF hD hC
    exact wp_pick (.tmp 109) (.tmp 122) (.const (.bool false)) rfl (b := true) e109 e122 (hK _ _ rfl (Below.refl _ _))
  rintro w8 hB8 hC8 _ rfl _ rfl _ rfl _ rfl _ rfl _ rfl _ rfl _ rfl _ rfl _ rfl _ rfl _ rfl _ rfl _ rfl _ rfl _ rfl _ rfl _ rfl _ rfl _ rfl _ rfl _ rfl _ rfl _ rfl _ rfl _ rfl _ rfl _ rfl _ rfl _ rfl _ rfl _ rfl v66 g66 _ rfl _ rfl _ rfl _ rfl _ rfl _ rfl _ rfl _ rfl _ rfl _ rfl _ rfl _ rfl _ rfl v80 g80 _ rfl _ rfl _ rfl _ rfl _ rfl _ rfl _ rfl _ rfl _ rfl _ rfl v91 g91 _ rfl _ rfl _ rfl _ rfl _ rfl _ rfl _ rfl _ rfl _ rfl _ rfl _ rfl _ rfl _ rfl v105 g105 _ rfl _ rfl _ rfl _ rfl _ rfl _ rfl _ rfl _ rfl v114 g114 _ rfl _ rfl _ rfl _ rfl v119 g119 v120 g120 _ rfl _ rfl _ rfl
  change Below _ _ _ at hB8
  change wpList _ _ _ _ _ _
  simp only [List.drop_succ_cons, List.drop_zero, Act.put, List.setIfInBounds_toArray, List.set_cons_zero, List.set_cons_succ]
  clear g66 g80 g91 g105 g114 g119 g120
  go_wp2_with fail
  go_ret
  exact ⟨rfl, below_next HB7.out hB8⟩
end Go.Proofs.Ytincemkjdgbnnaa
