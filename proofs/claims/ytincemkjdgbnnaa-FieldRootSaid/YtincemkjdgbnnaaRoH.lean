/- Walks: FieldRoot. -/
import Derived.Test.YtincemkjdgbnnaaRoG
set_option linter.unusedVariables false
set_option linter.unusedSimpArgs false
namespace Go.Proofs.Ytincemkjdgbnnaa
open Go.RowKit Lm

theorem sqB_pm {P Z v : Nat} (h : NT.IsPow Z ((P - 1) / 2) P v) (h1 : v ≠ 1) (h0 : v ≠ 0) : sqB P Z = false := by
  have h' : Z ^ ((P - 1) / 2) % P = v := h
  unfold sqB
  rw [h', decide_eq_false h1, decide_eq_false h0]; rfl
theorem kodd {k : Int} (hk : isKind k) : kP k % 2 = 1 := by
  rcases hk with rfl | rfl | rfl | rfl | rfl | rfl <;> exact of_decide_eq_true (by kernel_rfl)
/-- each of the six primes has a number that is no square. -/
theorem kroot {k : Int} (hk : isKind k) : ∃ Z, 2 ≤ Z ∧ sqB (kP k) Z = false := by
  rcases hk with rfl | rfl | rfl | rfl | rfl | rfl
  · exact ⟨3, by decide, sqB_pm (v := kP 1 - 1) (NT.isPow_of_pm (k := 384) (by decide +kernel) (by decide +kernel)) (by decide +kernel) (by decide +kernel)⟩
  · exact ⟨5, by decide, sqB_pm (v := kP 2 - 1) (NT.isPow_of_pm (k := 384) (by decide +kernel) (by decide +kernel)) (by decide +kernel) (by decide +kernel)⟩
  · exact ⟨3, by decide, sqB_pm (v := kP 3 - 1) (NT.isPow_of_pm (k := 384) (by decide +kernel) (by decide +kernel)) (by decide +kernel) (by decide +kernel)⟩
  · exact ⟨5, by decide, sqB_pm (v := kP 4 - 1) (NT.isPow_of_pm (k := 384) (by decide +kernel) (by decide +kernel)) (by decide +kernel) (by decide +kernel)⟩
  · exact ⟨2, by decide, sqB_pm (v := kP 5 - 1) (NT.isPow_of_pm (k := 384) (by decide +kernel) (by decide +kernel)) (by decide +kernel) (by decide +kernel)⟩
  · exact ⟨5, by decide, sqB_pm (v := kP 6 - 1) (NT.isPow_of_pm (k := 384) (by decide +kernel) (by decide +kernel)) (by decide +kernel) (by decide +kernel)⟩

/-! the lesser root -/
theorem ng_val {P x : Nat} (hx : x < P) : ng P x % P = if x = 0 then 0 else P - x := by
  unfold ng
  rw [Nat.mod_eq_of_lt hx]
  split
  · rename_i h; rw [h, Nat.sub_zero, Nat.mod_self]
  · exact Nat.mod_eq_of_lt (by omega)
theorem lsn_cases {P x : Nat} (hx : x < P) : lsn P x = x ∨ (x ≠ 0 ∧ lsn P x = P - x) := by
  unfold lsn
  rw [ng_val hx]
  split <;> split <;> simp_all
theorem lsn_lt {P x : Nat} (hx : x < P) : lsn P x < P := by rcases lsn_cases hx with h | ⟨h0, h⟩ <;> rw [h] <;> omega
theorem lsn_le {P x : Nat} (hx : x < P) : ¬ ng P (lsn P x) % P < lsn P x := by
  rw [ng_val (lsn_lt hx)]
  unfold lsn
  rw [ng_val hx]
  split <;> split <;> first | omega | (split <;> omega)
theorem sq_neg {P x : Nat} (hx : x ≤ P) : (P - x) * (P - x) % P = x * x % P := by
  obtain ⟨d, rfl⟩ : ∃ d, P = x + d := ⟨P - x, by omega⟩
  rw [Nat.add_sub_cancel_left]
  have e : d * d + (x + d) * (2 * x) = x * x + (x + d) * (x + d) := by
    simp only [Nat.add_mul, Nat.mul_add, Nat.mul_left_comm x 2, Nat.mul_comm d x, Nat.mul_left_comm d 2]; omega
  have h := congrArg (· % (x + d)) e
  simp only [Nat.add_mul_mod_self_left] at h
  exact h
theorem lsn_sq {P x : Nat} (hx : x < P) : lsn P x * lsn P x % P = x * x % P := by
  rcases lsn_cases hx with h | ⟨h0, h⟩
  · rw [h]
  · rw [h, sq_neg (Nat.le_of_lt hx)]
theorem lsn_zero (P : Nat) : lsn P 0 = 0 := by unfold lsn; simp
theorem sqk_mod (P x : Nat) : sqk P (x % P) = sqk P x := by unfold sqk; rw [Nat.mod_mod, ← Nat.pow_mod]
theorem sqk_sq {P b : Nat} (hp : NT.Prime P) (hodd : P % 2 = 1) : sqk P (b * b % P) = true := by
  rw [sqk_mod]
  by_cases h : b % P = 0
  · exact decide_eq_true (.inl (by rw [Nat.mul_mod, h, Nat.mul_zero, Nat.zero_mod]))
  · exact decide_eq_true (.inr (square_is hp hodd h))
/-- both roots of a square. -/
theorem roots_two {P s b : Nat} (hp : NT.Prime P) (hs : s < P) (h : s * s % P = b * b % P) : s = b % P ∨ s = ng P (b % P) % P := by
  have hb := Nat.mod_lt b hp.pos
  rcases sq_pm hp h with h1 | h1
  · left; rw [← h1, Nat.mod_eq_of_lt hs]
  · right
    rw [ng_val hb]
    rw [← Nat.add_mod_mod] at h1
    generalize b % P = c at *
    split
    · rename_i h0; rw [h0, Nat.add_zero, Nat.mod_eq_of_lt hs] at h1; exact h1
    · rcases Nat.lt_or_ge (s + c) P with h2 | h2
      · rw [Nat.mod_eq_of_lt h2] at h1; omega
      · rw [Nat.mod_eq_sub_mod h2, Nat.mod_eq_of_lt (by omega)] at h1; omega

/-- field.Sqrt: a number below the prime, whatever the run: the lesser root, or 0. -/
theorem fsqrt_c {k : Int} (hk : isKind k) (x : Nat) : ∃ s, s < kP k ∧ (sqk (kP k) x = true → s * s % kP k = x % kP k) ∧ (sqk (kP k) x = false → s = 0) ∧ ¬ ng (kP k) s % kP k < s ∧
    ∀ (b bm n size : Nat) (w : World), FQ w b bm (kP k) n size → x < B64 ^ 6 → Calls Try.prog 39 #[.pointer (some ⟨b, 0, none⟩), vE x] w fun e w' => e = .returned (.tuple #[vE s, .bool (sqk (kP k) x)]) ∧ Below w.heap.size w w' := by
  obtain ⟨Z, hZ2, hZ⟩ := kroot hk
  have hp := kprime hk
  obtain ⟨R, hR, hc⟩ := msqrt_c (X := x) (kok hk).inv hp (kodd hk) hZ2 hZ
  have hlt := Nat.mod_lt R hp.pos
  refine ⟨lsn (kP k) (R % kP k), lsn_lt hlt, fun h => ?_, fun h => ?_, lsn_le hlt, fun b bm n size w hF hx => fsqrt_r b bm (kP k) n size x R w hF hx hc⟩
  · rw [lsn_sq hlt, ← Nat.mul_mod, hR.1 h]
  · rw [hR.2 h, Nat.zero_mod, lsn_zero]

theorem Try.szF2 : (Try.prog.info? 32).map (·.size) = some 2 := by kernel_rfl
/-- the struct of a field's prime is read, behind a guard too. -/
theorem loadFG {ops : Array Oper} {rest : List Oper} {o : Oper} {a : Act} {w : World} {Q : Exit → Act → World → Prop} (hw : Region.wanted o (yielded ops a.tmps) = true) (x : Operand) (ho : o.op = .load 32 x) {b : Nat} {t : TypeId} (hx : a.eval x = .pointer (some ⟨b, 0, none⟩)) {A : Option Addr} {P c sz : Nat} (hv : VB w b t (vF A P c sz))
    (h : wpList Try.prog ops Q rest (a.put o.dst (.agg (vF A P c sz).toArray)) w) : wpList Try.prog ops Q (o :: rest) a w :=
  wpList_of_wp hw (wp_load_mid 32 x ho b 0 hx (vF A P c sz) _ (fun j v hj => by rw [Nat.zero_add, hv.cell, hj]) Try.underlying32 rfl (szVF _ _ _ _) h)

set_option maxRecDepth 100000 in
set_option maxHeartbeats 12800000 in
theorem root_c (k : Int) (x y z : Nat) (s : Value) (w : World) (hk : isKind k) (ha : x < B64 ^ 6) (hb : y < B64 ^ 6) :
    Calls Try.prog 8 #[.agg (askCells k x y z s).toArray] w fun e w' => e = .returned (.bool true) ∧ Below w.heap.size w w' := by
  have Hboth := hide (fun W => both_c k W hk)
  obtain ⟨r1, hr1P, hr1s, hr1n, hr1l, hr1c⟩ := fsqrt_c hk x
  obtain ⟨r2, hr2P, hr2s, hr2n, hr2l, hr2c⟩ := fsqrt_c hk (y * y % kP k)
  have hp := kprime hk
  have hodd := kodd hk
  have hq2 := sqk_sq (b := y) hp hodd
  have hr2r := hide (roots_two (b := y) hp hr2P (by rw [hr2s hq2, Nat.mod_mod]))
  rw [hq2] at hr2c
  clear hr2s hr2n hr2l hq2
  have hP32 : kP k < B32 ^ 12 := by have := (kok hk).lt; have h6 := (kok hk).n6; exact Nat.lt_of_lt_of_le this (by rw [show B32 ^ 12 = B64 ^ 6 from rfl]; exact Nat.pow_le_pow_right B64_pos h6)
  generalize kP k = P at *
  generalize kn k = n at *
  generalize ksz k = sz at *
  replace hr1c := hide hr1c
  replace hr2c := hide hr2c
  have Ha := hide ha
  have Hb' := hide hb
  have HP32 := hide hP32
  have HPl := hide (b32len hP32)
  have HXl := hide (b32len (n := x) (k := 12) (by rw [show B32 ^ 12 = B64 ^ 6 from rfl]; exact ha))
  have hP0 := hide (NT.Prime.pos hp)
  have hxP := hide (Nat.mod_lt x hP0.out)
  replace hr1P := hide hr1P
  replace hr2P := hide hr2P
  obtain ⟨q, hq⟩ : ∃ q, q = sqk P x := ⟨_, rfl⟩
  rw [← hq] at hr1s hr1n hr1c
  have hqm : sqk P (x % P) = q := by rw [sqk_mod, hq]
  replace hq := hide hq
  replace hqm := hide hqm
  replace hr1s := hide hr1s
  replace hr1n := hide hr1n
  replace hr1l := hide hr1l
  replace hodd := hide hodd
  have hS0 := hide (St.start w)
  clear ha hb hk hP32
  go_enter Try.func8, Try.ntmps8
  go_upto_region 4 with (first
    | ((with_reducible refine boxS (o := ⟨some 1, _, _, _, _, _⟩) ?_ 27 (.tmp 0) ?_ hS0.out (askCells k x y z s) ?_ ?_); rfl; rfl; rfl; intro w1 b1 hS1; have r0 : w1.cell? ⟨b1, 0, none⟩ = some (.int .i64 k) := (hS1.vb 0 _ rfl).cell 0; replace hS1 : Hid (St w w1 [⟨b1, 27, askCells k x y z s⟩]) := hS1)
    | (go_at_call 12; refine (Hboth.out w1).mono ?_; rintro e w2 ⟨bf, bm, A, cp, rfl, hF, hcp, hr, hB2⟩; replace hF := hide hF; replace hr := hide hr; replace hcp := hide hcp; have hS2 := hide (hS1.out.next hB2); clear hB2)
    | ((with_reducible refine allocSN (o := ⟨some 4, _, _, _, _, _⟩) ?_ 32 ?_ hS2.out [.slice none 0 0, .int .i64 0] Try.zrF ?_); rfl; rfl; intro w4 b4 hS4 hlo4 hbl4; replace hS4 := hide hS4; replace hlo4 := hide hlo4; replace hbl4 := hide hbl4)
    | ((with_reducible refine storeWS (n := 2) (o := ⟨none, _, _, _, _, _⟩) ?_ 32 (.tmp 4) (.tmp 19) ?_ hS4.out 1 (c := ⟨b4, 32, [.slice none 0 0, .int .i64 0]⟩) ?_ ?_ (vF A P cp sz) ?_ ?_ ?_ ?_ Try.szF2 ?_); rfl; rfl; rfl; rfl; rfl; rfl; rfl; rfl; intro w5 hS5 hO; replace hS5 : Hid (St w w5 [⟨b1, 27, askCells k x y z s⟩, ⟨b4, 32, vF A P cp sz⟩]) := hS5))
  have HF5 := hide ((hF.out.next hbl4.out).only hO.out (Nat.ne_of_lt (Nat.lt_of_lt_of_le hF.out.vb.lt hlo4.out)) (Nat.ne_of_lt (Nat.lt_of_lt_of_le hF.out.fb.vb.lt hlo4.out)))
  have HR5 := hide ((((hr.out.toB).next hbl4.out).only hO.out hlo4.out).rd)
  have HV5 := hide (hS5.out.vb 0 _ rfl)
  have HS5 := hide (hS5.out.vb 1 _ rfl)
  have HB5 := hide hS5.out.bl
  clear r0 hS0 hS1 hS2 hS4 Hboth hF hr hO hlo4 hbl4 hS5
  have HredX := hide (fun A24 c24 W h1 h2 h3 => rred_any A A24 P cp sz c24 x W h1 hcp.out (Nat.le_trans HPl.out (by decide)) hP0.out h2 h3 (Nat.le_trans HXl.out (by decide)))
  refine region_do 5 111 [fun v _ => v = .agg (vF A P cp sz).toArray, fun v _ => v = .pointer (some ⟨b1, 1, none⟩), fun v _ => v = vE (x), fun v w => SlIs .u32 (digs B32 x) v w, fun v w => SlIs .u32 (digs B32 (x % P)) v w]
    [(4, .pointer (some ⟨b4, 0, none⟩)), (1, .pointer (some ⟨b1, 0, none⟩))] (fun w' => VB w' b1 27 (askCells k x y z s) ∧ VB w' b4 32 (vF A P cp sz) ∧ Rd w' .u32 A (digs B32 P)) (fun w' => True) 999 none (by kernel_rfl) (by kernel_rfl) rfl rfl
    (.cons (Fact.eq _) rfl (.cons (Fact.eq _) rfl (.cons (Fact.eq _) rfl (.cons (SlIs.st) rfl (.cons (SlIs.st) rfl (.nil _)))))) (fun w' h => ⟨HV5.out.next h, HS5.out.next h, HR5.out.below h⟩) (fun w' h => trivial) (by kernel_rfl) (by exact ⟨rfl, rfl, trivial⟩) (.cons ?_ (.cons ?_ (.cons ?_ (.cons ?_ (.cons ?_ .nil))))) ?_
  · refine Obl.plain rfl _ rfl rfl [] (by kernel_rfl) fun a W hF hC hD K hK => ?_
    obtain ⟨c1, c2, c3⟩ := hC
    have e4 : a.tmps.getD 4 undef = .pointer (some ⟨b4, 0, none⟩) := hF.1
    clear hF hD
    exact wp_load_mid 32 (.tmp 4) rfl b4 0 e4 (vF A P cp sz) _ (fun j v hj => by rw [Nat.zero_add, c2.cell, hj]) Try.underlying32 rfl (szVF _ _ _ _) (hK _ _ rfl (Below.refl _ _))
  · refine Obl.plain rfl _ rfl rfl [] (by kernel_rfl) fun a W hF hC hD K hK => ?_
    have e1 : a.tmps.getD 1 undef = .pointer (some ⟨b1, 0, none⟩) := hF.2.1
    clear hF hD hC
    go_simp
    exact hK _ _ rfl (Below.refl _ _)
  · refine Obl.plain rfl _ rfl rfl [1] (by kernel_rfl) fun a W hF hC hD K hK => ?_
    obtain ⟨c1, c2, c3⟩ := hC
    have e26 : a.tmps.getD 26 undef = .pointer (some ⟨b1, 1, none⟩) := hD.1
    clear hF hD
    exact wpAsk (.tmp 26) rfl c1 1 e26 rfl (hK _ _ rfl (Below.refl _ _))
  · refine Obl.plain rfl _ rfl rfl [2] (by kernel_rfl) fun a W hF hC hD K hK => ?_
    have e27 : a.tmps.getD 27 undef = vE (x) := hD.1
    clear hF hD hC
    exact wp_callS #[a.tmps.getD 27 undef] #[vE x] (by kernel_rfl) (by rw [e27]) (rn_any x W Ha.out) (fun v w' h hb => hK _ _ h hb)
  · refine Obl.plain rfl _ rfl rfl [0, 3, 3] (by kernel_rfl) fun a W hF hC hD K hK => ?_
    obtain ⟨c1, c2, c3⟩ := hC
    have e25 : a.tmps.getD 25 undef = .agg (vF A P cp sz).toArray := hD.1
    have e28 : (fun (v : Value) (w : World) => SlIs .u32 (digs B32 x) v w) (a.tmps.getD 28 undef) W := hD.2.1
    clear hF hD
    obtain ⟨A24, c24, q24, hc24, hr24⟩ := e28
    exact wp_callS #[a.tmps.getD 25 undef, a.tmps.getD 28 undef] #[.agg (vF A P cp sz).toArray, .slice A24 (digs B32 x).length c24] (by kernel_rfl) (by rw [e25, q24]) (HredX.out A24 c24 W c3 hr24 hc24) (fun v w' h hb => hK _ _ h hb)
  rintro w6 hB6 hC6 _ rfl _ rfl _ rfl v28 g28 v29 g29
  change Below _ _ _ at hB6
  change wpList _ _ _ _ _ _
  simp only [List.drop_succ_cons, List.drop_zero, Act.put, List.setIfInBounds_toArray, List.set_cons_zero, List.set_cons_succ]
  obtain ⟨A7, c7, rfl, hc7, hr7⟩ := g29
  replace hc7 := hide hc7
  replace hr7 := hide hr7
  have HB6 := hide (below_next HB5.out hB6)
  have HV6 := hide (HV5.out.next hB6)
  have HF6 := hide (HF5.out.next hB6)
  have HS6 := hide (HS5.out.next hB6)
  have HR6 := hide (HR5.out.below hB6)
  have hT6 := hide (St.start w6)
  clear g28 hC6 hB6 HB5 HV5 HF5 HS5 HR5 HredX
  go_upto_region 6 with (first
    | ((with_reducible refine wpList_of_wpK (o := ⟨some 33, _, _, _, _, _⟩) ?_ (wpAsk (.tmp 32) ?_ HV6.out 1 (v := x) ?_ ?_ ?_)); rfl; rfl; rfl; rfl)
    | (go_at_call 39; refine (hr1c.out bf bm n sz w6 HF6.out Ha.out).mono ?_; rintro e w7 ⟨rfl, hb7⟩; have hT7 := hide (hT6.out.next hb7); clear hb7)
    | ((with_reducible refine allocS (o := ⟨some 8, _, _, _, _, _⟩) ?_ 24 ?_ hT7.out (ve 0) Try.zr24 ?_); rfl; rfl; intro w8 b8 hT8; replace hT8 := hide hT8)
    | ((with_reducible refine storeWS (n := 6) (o := ⟨none, _, _, _, _, _⟩) ?_ 24 (.tmp 8) (.tmp 35) ?_ hT8.out 0 (c := ⟨b8, 24, ve 0⟩) ?_ ?_ (ve r1) ?_ ?_ ?_ ?_ Try.sz24 ?_); rfl; rfl; rfl; rfl; rfl; rfl; rfl; rfl; intro w9 hT9 hO; replace hT9 : Hid (St w6 w9 [⟨b8, 24, ve r1⟩]) := hT9))
  clear hT6 hT7 hT8 hO
  have HV9 := hide (HV6.out.next hT9.out.bl)
  have HF9 := hide (HF6.out.next hT9.out.bl)
  have HS9 := hide (HS6.out.next hT9.out.bl)
  have HR9 := hide (HR6.out.below hT9.out.bl)
  have Hr79 := hide (hr7.out.below hT9.out.bl)
  have HB9 := hide (below_next HB6.out hT9.out.bl)
  have HN9 := hide (hT9.out.vb 0 _ rfl)
  clear HV6 HF6 HS6 HR6 hr7 HB6 hT9
  have hz : eqv 0 0 = true := eqv_of rfl
  replace hz := hide hz
  cases q with
  | false =>
    have hr0 : r1 = 0 := hr1n.out (by simp)
    subst hr0
    have Hsq := hide (rsquare_any A A7 P cp sz c7 (x % P) w9 HR9.out hcp.out HP32.out Hr79.out hc7.out hxP.out hodd.out)
    rw [hqm.out] at Hsq
    have hz' := hz.out
    go_upto_region 8 with (first
      | ((with_reducible refine loadFG (o := ⟨some 38, _, _, _, _, _⟩) ?_ (.tmp 4) ?_ ?_ HS9.out ?_); rfl; rfl; rfl)
      | (go_at_call 40; refine Hsq.out.mono ?_; rintro e wa ⟨rfl, hba⟩; have HNa := hide (HN9.out.next hba); replace hba := hide hba)
      | ((with_reducible refine loadTG 24 (o := ⟨some 46, _, _, _, _, _⟩) ?_ (.tmp 8) ?_ ?_ HNa.out Try.underlying24 rfl Try.sz24 ?_); rfl; rfl; rfl))
    go_upto_region 11 with (first
      | ((with_reducible refine loadT 24 (o := ⟨some 51, _, _, _, _, _⟩) ?_ (.tmp 8) ?_ ?_ HNa.out Try.underlying24 rfl Try.sz24 ?_); rfl; rfl; rfl)
      | (go_at_call 26; refine (rn_any 0 wa (pw_pos 6)).mono ?_; rintro e wb ⟨A10, c10, rfl, hc10, hr10, hbb⟩; have HBk := hide (below_next hba.out hbb); replace hr10 := hide hr10; replace hc10 := hide hc10; clear hbb))
    clear hz'
    have HVt := hide (HV9.out.next HBk.out)
    have HFt := hide (HF9.out.next HBk.out)
    have HBt := hide (below_next HB9.out HBk.out)
    have hT0 := hide (St.start wb)
    have HyP := hide (Nat.lt_trans (Nat.mod_lt y hP0.out) HFt.out.lt6)
    have HyyP := hide (Nat.lt_trans (Nat.mod_lt (y * y) hP0.out) HFt.out.lt6)
    go_upto_region 13 with (first
      | ((with_reducible refine wpList_of_wpK (o := ⟨some 87, _, _, _, _, _⟩) ?_ (wpAsk (.tmp 86) ?_ HVt.out 7 (v := y) ?_ ?_ ?_)); rfl; rfl; rfl; rfl)
      | ((with_reducible refine wpList_of_wpK (o := ⟨some 89, _, _, _, _, _⟩) ?_ (wpAsk (.tmp 88) ?_ HVt.out 7 (v := y) ?_ ?_ ?_)); rfl; rfl; rfl; rfl)
      | (go_at_call 19; refine (fmul_c bf bm P n sz y y wb HFt.out Hb'.out Hb'.out).mono ?_; rintro e v1 ⟨rfl, hb1⟩; have hT1 := hide (hT0.out.next hb1); clear hb1)
      | (go_at_call 39; refine (hr2c.out bf bm n sz v1 (HFt.out.next hT1.out.bl) HyyP.out).mono ?_; rintro e v2 ⟨rfl, hb2⟩; have hT2 := hide (hT1.out.next hb2); clear hb2)
      | ((with_reducible refine allocS (o := ⟨some 11, _, _, _, _, _⟩) ?_ 24 ?_ hT2.out (ve 0) Try.zr24 ?_); rfl; rfl; intro v3 b11 hT3; replace hT3 := hide hT3)
      | ((with_reducible refine storeWS (n := 6) (o := ⟨none, _, _, _, _, _⟩) ?_ 24 (.tmp 11) (.tmp 92) ?_ hT3.out 0 (c := ⟨b11, 24, ve 0⟩) ?_ ?_ (ve r2) ?_ ?_ ?_ ?_ Try.sz24 ?_); rfl; rfl; rfl; rfl; rfl; rfl; rfl; rfl; intro v4 hT4 hO; replace hT4 : Hid (St wb v4 [⟨b11, 24, ve r2⟩]) := hT4; have HV4 := hide (HVt.out.next hT4.out.bl))
      | ((with_reducible refine wpList_of_wpK (o := ⟨some 96, _, _, _, _, _⟩) ?_ (wpAsk (.tmp 95) ?_ HV4.out 7 (v := y) ?_ ?_ ?_)); rfl; rfl; rfl; rfl)
      | (go_at_call 18; refine (freduce_c bf bm P n sz y v4 (HFt.out.next hT4.out.bl) Hb'.out).mono ?_; rintro e v5 ⟨rfl, hb5⟩; have hT5 := hide (hT4.out.next hb5); clear hb5)
      | ((with_reducible refine allocS (o := ⟨some 13, _, _, _, _, _⟩) ?_ 24 ?_ hT5.out (ve 0) Try.zr24 ?_); rfl; rfl; intro v6 b13 hT6; replace hT6 := hide hT6)
      | ((with_reducible refine storeWS (n := 6) (o := ⟨none, _, _, _, _, _⟩) ?_ 24 (.tmp 13) (.tmp 97) ?_ hT6.out 1 (c := ⟨b13, 24, ve 0⟩) ?_ ?_ (ve (y % P)) ?_ ?_ ?_ ?_ Try.sz24 ?_); rfl; rfl; rfl; rfl; rfl; rfl; rfl; rfl; intro v7 hT7 hO2; replace hT7 : Hid (St wb v7 [⟨b11, 24, ve r2⟩, ⟨b13, 24, ve (y % P)⟩]) := hT7))
    have HFz := hide (HFt.out.next hT7.out.bl)
    have HBz := hide (below_next HBt.out hT7.out.bl)
    clear hT0 hT1 hT2 hT3 hT4 hT5 hT6 hO hO2 HV4
    by_cases h2 : r2 = y % P
    ·
      refine region_do 13 111 [fun v _ => v = .bool true, fun v _ => v = .bool true, fun v _ => v = vE (r2), fun v _ => v = vE (y % P), fun v _ => v = .bool true, fun v _ => v = .bool true, fun v _ => v = undef, fun v _ => v = undef, fun v _ => v = undef, fun v _ => v = undef, fun v _ => v = undef, fun v _ => v = .bool true, fun v _ => v = .bool true]
        [(12, .bool true), (11, .pointer (some ⟨b11, 0, none⟩)), (13, .pointer (some ⟨b13, 0, none⟩)), (3, .pointer (some ⟨bf, 0, none⟩))] (fun w' => FQ w' bf bm P n sz ∧ St wb w' [⟨b11, 24, ve r2⟩, ⟨b13, 24, ve (y % P)⟩]) (fun w' => True) 999 none (by kernel_rfl) (by kernel_rfl) rfl rfl
        (.cons (Fact.eq _) rfl (.cons (Fact.eq _) rfl (.cons (Fact.eq _) rfl (.cons (Fact.eq _) rfl (.cons (Fact.eq _) rfl (.cons (Fact.eq _) rfl (.cons (Fact.eq _) rfl (.cons (Fact.eq _) rfl (.cons (Fact.eq _) rfl (.cons (Fact.eq _) rfl (.cons (Fact.eq _) rfl (.cons (Fact.eq _) rfl (.cons (Fact.eq _) rfl (.nil _)))))))))))))) (fun w' h => ⟨HFz.out.next h, hT7.out.next h⟩) (fun w' h => trivial) (by kernel_rfl) (by exact ⟨rfl, rfl, rfl, rfl, trivial⟩) (.cons ?_ (.cons ?_ (.cons ?_ (.cons ?_ (.cons ?_ (.cons ?_ (.cons ?_ (.cons ?_ (.cons ?_ (.cons ?_ (.cons ?_ (.cons ?_ (.cons ?_ .nil))))))))))))) ?_
      · refine Obl.plain rfl _ rfl rfl [] (by kernel_rfl) fun a W hF hC hD K hK => ?_
        have e12 : a.tmps.getD 12 undef = .bool true := hF.1
        clear hF hD hC
        go_simp
        exact hK _ _ rfl (Below.refl _ _)
      · refine Obl.plain rfl _ rfl rfl [0] (by kernel_rfl) fun a W hF hC hD K hK => ?_
        have e98 : a.tmps.getD 98 undef = .bool true := hD.1
        clear hF hD hC
        go_simp
        exact hK _ _ rfl (Below.refl _ _)
      · refine Obl.guarded rfl _ rfl 1 true 99 rfl rfl [1] (by kernel_rfl) (fun a W hF hC hD => hD.1) fun a W hF hC hD K hK => ?_
        obtain ⟨c1, c2⟩ := hC
        have e11 : a.tmps.getD 11 undef = .pointer (some ⟨b11, 0, none⟩) := hF.2.1
        clear hF hD
        exact wpE _ (.tmp 11) rfl (c2.vb 0 _ rfl) e11 Try.underlying24 rfl Try.sz24 (hK _ _ rfl (Below.refl _ _))
      · refine Obl.guarded rfl _ rfl 1 true 99 rfl rfl [1] (by kernel_rfl) (fun a W hF hC hD => hD.1) fun a W hF hC hD K hK => ?_
        obtain ⟨c1, c2⟩ := hC
        have e13 : a.tmps.getD 13 undef = .pointer (some ⟨b13, 0, none⟩) := hF.2.2.1
        clear hF hD
        exact wpE _ (.tmp 13) rfl (c2.vb 1 _ rfl) e13 Try.underlying24 rfl Try.sz24 (hK _ _ rfl (Below.refl _ _))
      · refine Obl.guarded rfl _ rfl 1 true 99 rfl rfl [2, 3, 1] (by kernel_rfl) (fun a W hF hC hD => hD.2.2.1) fun a W hF hC hD K hK => ?_
        have e100 : a.tmps.getD 100 undef = vE (r2) := hD.1
        have e101 : a.tmps.getD 101 undef = vE (y % P) := hD.2.1
        clear hF hD hC
        have f0 := eqv_of h2
        exact wp_eqlN (.tmp 100) (.tmp 101) _ rfl e100 e101 (hK _ _ (congrArg Value.bool f0) (Below.refl _ _))
      · refine Obl.guarded rfl _ rfl 1 true 99 rfl rfl [4, 1, 1] (by kernel_rfl) (fun a W hF hC hD => hD.2.1) fun a W hF hC hD K hK => ?_
        have e102 : a.tmps.getD 102 undef = .bool true := hD.1
        clear hF hD hC
        go_simp
        exact hK _ _ rfl (Below.refl _ _)
      · exact Obl.skipped rfl _ rfl 5 false 103 rfl rfl [5] (by kernel_rfl) (fun a W hF hC hD => hD.1) (fun _ => rfl)
      · exact Obl.skipped rfl _ rfl 5 false 103 rfl rfl [5] (by kernel_rfl) (fun a W hF hC hD => hD.1) (fun _ => rfl)
      · exact Obl.skipped rfl _ rfl 5 false 103 rfl rfl [5] (by kernel_rfl) (fun a W hF hC hD => hD.1) (fun _ => rfl)
      · exact Obl.skipped rfl _ rfl 5 false 103 rfl rfl [7, 8, 5, 5] (by kernel_rfl) (fun a W hF hC hD => hD.2.2.1) (fun _ => rfl)
      · exact Obl.skipped rfl _ rfl 5 false 103 rfl rfl [6, 9, 5] (by kernel_rfl) (fun a W hF hC hD => hD.2.2.1) (fun _ => rfl)
      · refine Obl.guarded rfl _ rfl 1 true 99 rfl rfl [5, 10, 1] (by kernel_rfl) (fun a W hF hC hD => hD.2.2.1) fun a W hF hC hD K hK => ?_
        have e103 : a.tmps.getD 103 undef = .bool true := hD.1
        have e108 : a.tmps.getD 108 undef = undef := hD.2.1
        clear hF hD hC
        exact wp_pick (.tmp 103) (.const (.bool true)) (.tmp 108) rfl (b := true) e103 rfl (hK _ _ rfl (Below.refl _ _))
      · refine Obl.plain rfl _ rfl rfl [1, 11] (by kernel_rfl) fun a W hF hC hD K hK => ?_
        have e99 : a.tmps.getD 99 undef = .bool true := hD.1
        have e109 : a.tmps.getD 109 undef = .bool true := hD.2.1
        clear hF hD hC
        exact wp_pick (.tmp 99) (.tmp 109) (.const (.bool false)) rfl (b := true) e99 e109 (hK _ _ rfl (Below.refl _ _))
      rintro v8 hB8 hC8 _ rfl _ rfl _ rfl _ rfl _ rfl _ rfl _ rfl _ rfl _ rfl _ rfl _ rfl _ rfl _ rfl
      change Below _ _ _ at hB8
      change wpList _ _ _ _ _ _
      simp only [List.drop_succ_cons, List.drop_zero, Act.put, List.setIfInBounds_toArray, List.set_cons_zero, List.set_cons_succ]
      have HB8 := hide (below_next HBz.out hB8)
      clear hB8 hC8
      replace h2 := hide h2
      go_wp2_with fail
      go_ret
      exact ⟨rfl, HB8.out⟩
    ·
      refine region_do 13 111 [fun v _ => v = .bool true, fun v _ => v = .bool true, fun v _ => v = vE (r2), fun v _ => v = vE (y % P), fun v _ => v = .bool false, fun v _ => v = .bool false, fun v _ => v = vE (r2), fun v _ => v = .pointer (some ⟨bf, 0, none⟩), fun v _ => v = vE (y % P), fun v _ => v = vE (ng P (y % P) % P), fun v _ => v = .bool true, fun v _ => v = .bool true, fun v _ => v = .bool true]
        [(12, .bool true), (11, .pointer (some ⟨b11, 0, none⟩)), (13, .pointer (some ⟨b13, 0, none⟩)), (3, .pointer (some ⟨bf, 0, none⟩))] (fun w' => FQ w' bf bm P n sz ∧ St wb w' [⟨b11, 24, ve r2⟩, ⟨b13, 24, ve (y % P)⟩]) (fun w' => True) 999 none (by kernel_rfl) (by kernel_rfl) rfl rfl
        (.cons (Fact.eq _) rfl (.cons (Fact.eq _) rfl (.cons (Fact.eq _) rfl (.cons (Fact.eq _) rfl (.cons (Fact.eq _) rfl (.cons (Fact.eq _) rfl (.cons (Fact.eq _) rfl (.cons (Fact.eq _) rfl (.cons (Fact.eq _) rfl (.cons (Fact.eq _) rfl (.cons (Fact.eq _) rfl (.cons (Fact.eq _) rfl (.cons (Fact.eq _) rfl (.nil _)))))))))))))) (fun w' h => ⟨HFz.out.next h, hT7.out.next h⟩) (fun w' h => trivial) (by kernel_rfl) (by exact ⟨rfl, rfl, rfl, rfl, trivial⟩) (.cons ?_ (.cons ?_ (.cons ?_ (.cons ?_ (.cons ?_ (.cons ?_ (.cons ?_ (.cons ?_ (.cons ?_ (.cons ?_ (.cons ?_ (.cons ?_ (.cons ?_ .nil))))))))))))) ?_
      · refine Obl.plain rfl _ rfl rfl [] (by kernel_rfl) fun a W hF hC hD K hK => ?_
        have e12 : a.tmps.getD 12 undef = .bool true := hF.1
        clear hF hD hC
        go_simp
        exact hK _ _ rfl (Below.refl _ _)
      · refine Obl.plain rfl _ rfl rfl [0] (by kernel_rfl) fun a W hF hC hD K hK => ?_
        have e98 : a.tmps.getD 98 undef = .bool true := hD.1
        clear hF hD hC
        go_simp
        exact hK _ _ rfl (Below.refl _ _)
      · refine Obl.guarded rfl _ rfl 1 true 99 rfl rfl [1] (by kernel_rfl) (fun a W hF hC hD => hD.1) fun a W hF hC hD K hK => ?_
        obtain ⟨c1, c2⟩ := hC
        have e11 : a.tmps.getD 11 undef = .pointer (some ⟨b11, 0, none⟩) := hF.2.1
        clear hF hD
        exact wpE _ (.tmp 11) rfl (c2.vb 0 _ rfl) e11 Try.underlying24 rfl Try.sz24 (hK _ _ rfl (Below.refl _ _))
      · refine Obl.guarded rfl _ rfl 1 true 99 rfl rfl [1] (by kernel_rfl) (fun a W hF hC hD => hD.1) fun a W hF hC hD K hK => ?_
        obtain ⟨c1, c2⟩ := hC
        have e13 : a.tmps.getD 13 undef = .pointer (some ⟨b13, 0, none⟩) := hF.2.2.1
        clear hF hD
        exact wpE _ (.tmp 13) rfl (c2.vb 1 _ rfl) e13 Try.underlying24 rfl Try.sz24 (hK _ _ rfl (Below.refl _ _))
      · refine Obl.guarded rfl _ rfl 1 true 99 rfl rfl [2, 3, 1] (by kernel_rfl) (fun a W hF hC hD => hD.2.2.1) fun a W hF hC hD K hK => ?_
        have e100 : a.tmps.getD 100 undef = vE (r2) := hD.1
        have e101 : a.tmps.getD 101 undef = vE (y % P) := hD.2.1
        clear hF hD hC
        have f0 := (eqv_lt (Nat.lt_trans hr2P.out HFz.out.lt6) HyP.out).trans (decide_eq_false h2)
        exact wp_eqlN (.tmp 100) (.tmp 101) _ rfl e100 e101 (hK _ _ (congrArg Value.bool f0) (Below.refl _ _))
      · refine Obl.guarded rfl _ rfl 1 true 99 rfl rfl [4, 1, 1] (by kernel_rfl) (fun a W hF hC hD => hD.2.1) fun a W hF hC hD K hK => ?_
        have e102 : a.tmps.getD 102 undef = .bool false := hD.1
        clear hF hD hC
        go_simp
        exact hK _ _ rfl (Below.refl _ _)
      · refine Obl.guarded rfl _ rfl 5 false 103 rfl rfl [5] (by kernel_rfl) (fun a W hF hC hD => hD.1) fun a W hF hC hD K hK => ?_
        obtain ⟨c1, c2⟩ := hC
        have e11 : a.tmps.getD 11 undef = .pointer (some ⟨b11, 0, none⟩) := hF.2.1
        clear hF hD
        exact wpE _ (.tmp 11) rfl (c2.vb 0 _ rfl) e11 Try.underlying24 rfl Try.sz24 (hK _ _ rfl (Below.refl _ _))
      · refine Obl.guarded rfl _ rfl 5 false 103 rfl rfl [5] (by kernel_rfl) (fun a W hF hC hD => hD.1) fun a W hF hC hD K hK => ?_
        have e3 : a.tmps.getD 3 undef = .pointer (some ⟨bf, 0, none⟩) := hF.2.2.2.1
        clear hF hD hC
        go_simp
        exact hK _ _ rfl (Below.refl _ _)
      · refine Obl.guarded rfl _ rfl 5 false 103 rfl rfl [5] (by kernel_rfl) (fun a W hF hC hD => hD.1) fun a W hF hC hD K hK => ?_
        obtain ⟨c1, c2⟩ := hC
        have e13 : a.tmps.getD 13 undef = .pointer (some ⟨b13, 0, none⟩) := hF.2.2.1
        clear hF hD
        exact wpE _ (.tmp 13) rfl (c2.vb 1 _ rfl) e13 Try.underlying24 rfl Try.sz24 (hK _ _ rfl (Below.refl _ _))
      · refine Obl.guarded rfl _ rfl 5 false 103 rfl rfl [7, 8, 5, 5] (by kernel_rfl) (fun a W hF hC hD => hD.2.2.1) fun a W hF hC hD K hK => ?_
        obtain ⟨c1, c2⟩ := hC
        have e105 : a.tmps.getD 105 undef = .pointer (some ⟨bf, 0, none⟩) := hD.1
        have e106 : a.tmps.getD 106 undef = vE (y % P) := hD.2.1
        clear hF hD
        exact wp_callV #[a.tmps.getD 105 undef, a.tmps.getD 106 undef] #[.pointer (some ⟨bf, 0, none⟩), vE (y % P)] (vE (ng P (y % P) % P)) (by kernel_rfl) (by rw [e105, e106]) (fneg_c bf bm P n sz (y % P) W c1 HyP.out) fun w' hb => hK _ _ rfl hb
      · refine Obl.guarded rfl _ rfl 5 false 103 rfl rfl [6, 9, 5] (by kernel_rfl) (fun a W hF hC hD => hD.2.2.1) fun a W hF hC hD K hK => ?_
        have e104 : a.tmps.getD 104 undef = vE (r2) := hD.1
        have e107 : a.tmps.getD 107 undef = vE (ng P (y % P) % P) := hD.2.1
        clear hF hD hC
        have f0 := eqv_of (hr2r.out.resolve_left h2)
        exact wp_eqlN (.tmp 104) (.tmp 107) _ rfl e104 e107 (hK _ _ (congrArg Value.bool f0) (Below.refl _ _))
      · refine Obl.guarded rfl _ rfl 1 true 99 rfl rfl [5, 10, 1] (by kernel_rfl) (fun a W hF hC hD => hD.2.2.1) fun a W hF hC hD K hK => ?_
        have e103 : a.tmps.getD 103 undef = .bool false := hD.1
        have e108 : a.tmps.getD 108 undef = .bool true := hD.2.1
        clear hF hD hC
        exact wp_pick (.tmp 103) (.const (.bool true)) (.tmp 108) rfl (b := false) e103 e108 (hK _ _ rfl (Below.refl _ _))
      · refine Obl.plain rfl _ rfl rfl [1, 11] (by kernel_rfl) fun a W hF hC hD K hK => ?_
        have e99 : a.tmps.getD 99 undef = .bool true := hD.1
        have e109 : a.tmps.getD 109 undef = .bool true := hD.2.1
        clear hF hD hC
        exact wp_pick (.tmp 99) (.tmp 109) (.const (.bool false)) rfl (b := true) e99 e109 (hK _ _ rfl (Below.refl _ _))
      rintro v8 hB8 hC8 _ rfl _ rfl _ rfl _ rfl _ rfl _ rfl _ rfl _ rfl _ rfl _ rfl _ rfl _ rfl _ rfl
      change Below _ _ _ at hB8
      change wpList _ _ _ _ _ _
      simp only [List.drop_succ_cons, List.drop_zero, Act.put, List.setIfInBounds_toArray, List.set_cons_zero, List.set_cons_succ]
      have HB8 := hide (below_next HBz.out hB8)
      clear hB8 hC8
      replace h2 := hide h2
      go_wp2_with fail
      go_ret
      exact ⟨rfl, HB8.out⟩
  | true =>
    have Hsq := hide (rsquare_any A A7 P cp sz c7 (x % P) w9 HR9.out hcp.out HP32.out Hr79.out hc7.out hxP.out hodd.out)
    rw [hqm.out] at Hsq
    go_upto_region 8 with (first
      | ((with_reducible refine loadFG (o := ⟨some 38, _, _, _, _, _⟩) ?_ (.tmp 4) ?_ ?_ HS9.out ?_); rfl; rfl; rfl)
      | (go_at_call 40; refine Hsq.out.mono ?_; rintro e wa ⟨rfl, hba⟩; have HNa := hide (HN9.out.next hba); replace hba := hide hba))
    go_upto_region 9 with (first
      | ((with_reducible refine loadT 24 (o := ⟨some 51, _, _, _, _, _⟩) ?_ (.tmp 8) ?_ ?_ HNa.out Try.underlying24 rfl Try.sz24 ?_); rfl; rfl; rfl)
      | (go_at_call 26; refine (rn_any r1 wa (Nat.lt_trans hr1P.out HF9.out.lt6)).mono ?_; rintro e wb ⟨A10, c10, rfl, hc10, hr10, hbb⟩; have HBb := hide (below_next hba.out hbb); replace hr10 := hide hr10; replace hc10 := hide hc10; clear hbb))
    have HSb := hide (HS9.out.next HBb.out)
    have HRb := hide (HR9.out.below HBb.out)
    have Hr7b := hide (Hr79.out.below HBb.out)
    have r57 : wb.cell? ⟨b4, 0, none⟩ = some (.slice A (digs B32 P).length cp) := HSb.out.cell 0
    have hl1 := hide (b32len (n := r1) (k := 12) (Nat.lt_trans hr1P.out HP32.out))
    have hlx := hide (b32len (n := x % P) (k := 12) (Nat.lt_trans hxP.out HP32.out))
    have hln := hide (b32len (n := ng P r1 % P) (k := 12) (Nat.lt_trans (Nat.mod_lt _ hP0.out) HP32.out))
    have hl24 := hide (b32len (n := r1 * r1) (k := 24) (by rw [show B32 ^ 24 = B32 ^ 12 * B32 ^ 12 from by rw [← Nat.pow_add]]; exact Nat.mul_lt_mul'' (Nat.lt_trans hr1P.out HP32.out) (Nat.lt_trans hr1P.out HP32.out)))
    have hcI : cmpI r1 P = -1 := by unfold cmpI; rw [if_pos hr1P.out]
    have hcS : cmpI (x % P) (x % P) = 0 := by unfold cmpI; simp
    have H1 := hide (ncmp_any A10 A c10 cp r1 P wb hr10.out HRb.out (Nat.le_trans hl1.out (by decide)) (Nat.le_trans HPl.out (by decide)))
    rw [hcI] at H1
    have HM := hide (fun W h1 h2 => rmul_any A A10 A10 P cp sz c10 c10 r1 r1 W h1 hcp.out (Nat.le_trans HPl.out (by decide)) hP0.out h2 hc10.out h2 hc10.out (Nat.le_trans hl24.out (by decide)) (Nat.lt_of_le_of_lt hl1.out (by decide)) (Nat.lt_of_le_of_lt hl1.out (by decide)))
    rw [hr1s.out (by simp)] at HM
    have H2 := hide (fun Am cm W h1 h2 => ncmp_any Am A7 cm c7 (x % P) (x % P) W h1 h2 (Nat.le_trans hlx.out (by decide)) (Nat.le_trans hlx.out (by decide)))
    rw [hcS] at H2
    have HN := hide (fun W h1 h2 => rneg_any A A10 P cp sz c10 r1 W h1 hcp.out HP32.out h2 hc10.out hr1P.out)
    obtain ⟨cv, hcv⟩ : ∃ c, c = cmpI (ng P r1 % P) r1 := ⟨_, rfl⟩
    have hcn : ¬ cv < 0 := by rw [hcv]; exact cmpI_ge hr1l.out
    have H3 := hide (fun An cn W h1 h2 => ncmp_any An A10 cn c10 (ng P r1 % P) r1 W h1 h2 (Nat.le_trans hln.out (by decide)) (Nat.le_trans hl1.out (by decide)))
    rw [← hcv] at H3
    replace hcv := hide hcv
    clear hcI hcS
    go_upto_region 11 with (first
      | ((with_reducible refine loadFG (o := ⟨some 61, _, _, _, _, _⟩) ?_ (.tmp 4) ?_ ?_ (HSb.out.next hbc.out) ?_); rfl; rfl; rfl)
      | ((with_reducible refine loadFG (o := ⟨some 70, _, _, _, _, _⟩) ?_ (.tmp 4) ?_ ?_ (HSb.out.next hbe.out) ?_); rfl; rfl; rfl)
      | (go_at_call 21; refine (H3.out An cn wf hrn.out ((hr10.out.below hbe.out).below hbf.out)).mono ?_; rintro e wg ⟨rfl, hbg⟩; have HBk := hide (below_next (below_next (below_next HBb.out hbe.out) hbf.out) hbg); clear hbg)
      | (go_at_call 21; refine (H2.out Am cm wd hrm.out ((Hr7b.out.below hbc.out).below hbd.out)).mono ?_; rintro e we ⟨rfl, hbe⟩; replace hbe := hide (below_next (below_next hbc.out hbd.out) hbe))
      | (go_at_call 21; refine H1.out.mono ?_; rintro e wc ⟨rfl, hbc⟩; replace hbc := hide hbc)
      | (go_at_call 28; refine (HM.out wc (HRb.out.below hbc.out) (hr10.out.below hbc.out)).mono ?_; rintro e wd ⟨Am, cm, rfl, hcm, hrm, hbd⟩; replace hrm := hide hrm; replace hcm := hide hcm; replace hbd := hide hbd)
      | (go_at_call 37; refine (HN.out we (HRb.out.below hbe.out) (hr10.out.below hbe.out)).mono ?_; rintro e wf ⟨An, cn, rfl, hcn', hrn, hbf⟩; replace hrn := hide hrn; replace hcn' := hide hcn'; replace hbf := hide hbf))
    clear r57 hcn
    have HVt := hide (HV9.out.next HBk.out)
    have HFt := hide (HF9.out.next HBk.out)
    have HBt := hide (below_next HB9.out HBk.out)
    have hT0 := hide (St.start wg)
    have HyP := hide (Nat.lt_trans (Nat.mod_lt y hP0.out) HFt.out.lt6)
    have HyyP := hide (Nat.lt_trans (Nat.mod_lt (y * y) hP0.out) HFt.out.lt6)
    go_upto_region 13 with (first
      | ((with_reducible refine wpList_of_wpK (o := ⟨some 87, _, _, _, _, _⟩) ?_ (wpAsk (.tmp 86) ?_ HVt.out 7 (v := y) ?_ ?_ ?_)); rfl; rfl; rfl; rfl)
      | ((with_reducible refine wpList_of_wpK (o := ⟨some 89, _, _, _, _, _⟩) ?_ (wpAsk (.tmp 88) ?_ HVt.out 7 (v := y) ?_ ?_ ?_)); rfl; rfl; rfl; rfl)
      | (go_at_call 19; refine (fmul_c bf bm P n sz y y wg HFt.out Hb'.out Hb'.out).mono ?_; rintro e v1 ⟨rfl, hb1⟩; have hT1 := hide (hT0.out.next hb1); clear hb1)
      | (go_at_call 39; refine (hr2c.out bf bm n sz v1 (HFt.out.next hT1.out.bl) HyyP.out).mono ?_; rintro e v2 ⟨rfl, hb2⟩; have hT2 := hide (hT1.out.next hb2); clear hb2)
      | ((with_reducible refine allocS (o := ⟨some 11, _, _, _, _, _⟩) ?_ 24 ?_ hT2.out (ve 0) Try.zr24 ?_); rfl; rfl; intro v3 b11 hT3; replace hT3 := hide hT3)
      | ((with_reducible refine storeWS (n := 6) (o := ⟨none, _, _, _, _, _⟩) ?_ 24 (.tmp 11) (.tmp 92) ?_ hT3.out 0 (c := ⟨b11, 24, ve 0⟩) ?_ ?_ (ve r2) ?_ ?_ ?_ ?_ Try.sz24 ?_); rfl; rfl; rfl; rfl; rfl; rfl; rfl; rfl; intro v4 hT4 hO; replace hT4 : Hid (St wg v4 [⟨b11, 24, ve r2⟩]) := hT4; have HV4 := hide (HVt.out.next hT4.out.bl))
      | ((with_reducible refine wpList_of_wpK (o := ⟨some 96, _, _, _, _, _⟩) ?_ (wpAsk (.tmp 95) ?_ HV4.out 7 (v := y) ?_ ?_ ?_)); rfl; rfl; rfl; rfl)
      | (go_at_call 18; refine (freduce_c bf bm P n sz y v4 (HFt.out.next hT4.out.bl) Hb'.out).mono ?_; rintro e v5 ⟨rfl, hb5⟩; have hT5 := hide (hT4.out.next hb5); clear hb5)
      | ((with_reducible refine allocS (o := ⟨some 13, _, _, _, _, _⟩) ?_ 24 ?_ hT5.out (ve 0) Try.zr24 ?_); rfl; rfl; intro v6 b13 hT6; replace hT6 := hide hT6)
      | ((with_reducible refine storeWS (n := 6) (o := ⟨none, _, _, _, _, _⟩) ?_ 24 (.tmp 13) (.tmp 97) ?_ hT6.out 1 (c := ⟨b13, 24, ve 0⟩) ?_ ?_ (ve (y % P)) ?_ ?_ ?_ ?_ Try.sz24 ?_); rfl; rfl; rfl; rfl; rfl; rfl; rfl; rfl; intro v7 hT7 hO2; replace hT7 : Hid (St wg v7 [⟨b11, 24, ve r2⟩, ⟨b13, 24, ve (y % P)⟩]) := hT7))
    have HFz := hide (HFt.out.next hT7.out.bl)
    have HBz := hide (below_next HBt.out hT7.out.bl)
    clear hT0 hT1 hT2 hT3 hT4 hT5 hT6 hO hO2 HV4
    by_cases h2 : r2 = y % P
    ·
      refine region_do 13 111 [fun v _ => v = .bool true, fun v _ => v = .bool true, fun v _ => v = vE (r2), fun v _ => v = vE (y % P), fun v _ => v = .bool true, fun v _ => v = .bool true, fun v _ => v = undef, fun v _ => v = undef, fun v _ => v = undef, fun v _ => v = undef, fun v _ => v = undef, fun v _ => v = .bool true, fun v _ => v = .bool true]
        [(12, .bool true), (11, .pointer (some ⟨b11, 0, none⟩)), (13, .pointer (some ⟨b13, 0, none⟩)), (3, .pointer (some ⟨bf, 0, none⟩))] (fun w' => FQ w' bf bm P n sz ∧ St wg w' [⟨b11, 24, ve r2⟩, ⟨b13, 24, ve (y % P)⟩]) (fun w' => True) 999 none (by kernel_rfl) (by kernel_rfl) rfl rfl
        (.cons (Fact.eq _) rfl (.cons (Fact.eq _) rfl (.cons (Fact.eq _) rfl (.cons (Fact.eq _) rfl (.cons (Fact.eq _) rfl (.cons (Fact.eq _) rfl (.cons (Fact.eq _) rfl (.cons (Fact.eq _) rfl (.cons (Fact.eq _) rfl (.cons (Fact.eq _) rfl (.cons (Fact.eq _) rfl (.cons (Fact.eq _) rfl (.cons (Fact.eq _) rfl (.nil _)))))))))))))) (fun w' h => ⟨HFz.out.next h, hT7.out.next h⟩) (fun w' h => trivial) (by kernel_rfl) (by exact ⟨rfl, rfl, rfl, rfl, trivial⟩) (.cons ?_ (.cons ?_ (.cons ?_ (.cons ?_ (.cons ?_ (.cons ?_ (.cons ?_ (.cons ?_ (.cons ?_ (.cons ?_ (.cons ?_ (.cons ?_ (.cons ?_ .nil))))))))))))) ?_
      · refine Obl.plain rfl _ rfl rfl [] (by kernel_rfl) fun a W hF hC hD K hK => ?_
        have e12 : a.tmps.getD 12 undef = .bool true := hF.1
        clear hF hD hC
        go_simp
        exact hK _ _ rfl (Below.refl _ _)
      · refine Obl.plain rfl _ rfl rfl [0] (by kernel_rfl) fun a W hF hC hD K hK => ?_
        have e98 : a.tmps.getD 98 undef = .bool true := hD.1
        clear hF hD hC
        go_simp
        exact hK _ _ rfl (Below.refl _ _)
      · refine Obl.guarded rfl _ rfl 1 true 99 rfl rfl [1] (by kernel_rfl) (fun a W hF hC hD => hD.1) fun a W hF hC hD K hK => ?_
        obtain ⟨c1, c2⟩ := hC
        have e11 : a.tmps.getD 11 undef = .pointer (some ⟨b11, 0, none⟩) := hF.2.1
        clear hF hD
        exact wpE _ (.tmp 11) rfl (c2.vb 0 _ rfl) e11 Try.underlying24 rfl Try.sz24 (hK _ _ rfl (Below.refl _ _))
      · refine Obl.guarded rfl _ rfl 1 true 99 rfl rfl [1] (by kernel_rfl) (fun a W hF hC hD => hD.1) fun a W hF hC hD K hK => ?_
        obtain ⟨c1, c2⟩ := hC
        have e13 : a.tmps.getD 13 undef = .pointer (some ⟨b13, 0, none⟩) := hF.2.2.1
        clear hF hD
        exact wpE _ (.tmp 13) rfl (c2.vb 1 _ rfl) e13 Try.underlying24 rfl Try.sz24 (hK _ _ rfl (Below.refl _ _))
      · refine Obl.guarded rfl _ rfl 1 true 99 rfl rfl [2, 3, 1] (by kernel_rfl) (fun a W hF hC hD => hD.2.2.1) fun a W hF hC hD K hK => ?_
        have e100 : a.tmps.getD 100 undef = vE (r2) := hD.1
        have e101 : a.tmps.getD 101 undef = vE (y % P) := hD.2.1
        clear hF hD hC
        have f0 := eqv_of h2
        exact wp_eqlN (.tmp 100) (.tmp 101) _ rfl e100 e101 (hK _ _ (congrArg Value.bool f0) (Below.refl _ _))
      · refine Obl.guarded rfl _ rfl 1 true 99 rfl rfl [4, 1, 1] (by kernel_rfl) (fun a W hF hC hD => hD.2.1) fun a W hF hC hD K hK => ?_
        have e102 : a.tmps.getD 102 undef = .bool true := hD.1
        clear hF hD hC
        go_simp
        exact hK _ _ rfl (Below.refl _ _)
      · exact Obl.skipped rfl _ rfl 5 false 103 rfl rfl [5] (by kernel_rfl) (fun a W hF hC hD => hD.1) (fun _ => rfl)
      · exact Obl.skipped rfl _ rfl 5 false 103 rfl rfl [5] (by kernel_rfl) (fun a W hF hC hD => hD.1) (fun _ => rfl)
      · exact Obl.skipped rfl _ rfl 5 false 103 rfl rfl [5] (by kernel_rfl) (fun a W hF hC hD => hD.1) (fun _ => rfl)
      · exact Obl.skipped rfl _ rfl 5 false 103 rfl rfl [7, 8, 5, 5] (by kernel_rfl) (fun a W hF hC hD => hD.2.2.1) (fun _ => rfl)
      · exact Obl.skipped rfl _ rfl 5 false 103 rfl rfl [6, 9, 5] (by kernel_rfl) (fun a W hF hC hD => hD.2.2.1) (fun _ => rfl)
      · refine Obl.guarded rfl _ rfl 1 true 99 rfl rfl [5, 10, 1] (by kernel_rfl) (fun a W hF hC hD => hD.2.2.1) fun a W hF hC hD K hK => ?_
        have e103 : a.tmps.getD 103 undef = .bool true := hD.1
        have e108 : a.tmps.getD 108 undef = undef := hD.2.1
        clear hF hD hC
        exact wp_pick (.tmp 103) (.const (.bool true)) (.tmp 108) rfl (b := true) e103 rfl (hK _ _ rfl (Below.refl _ _))
      · refine Obl.plain rfl _ rfl rfl [1, 11] (by kernel_rfl) fun a W hF hC hD K hK => ?_
        have e99 : a.tmps.getD 99 undef = .bool true := hD.1
        have e109 : a.tmps.getD 109 undef = .bool true := hD.2.1
        clear hF hD hC
        exact wp_pick (.tmp 99) (.tmp 109) (.const (.bool false)) rfl (b := true) e99 e109 (hK _ _ rfl (Below.refl _ _))
      rintro v8 hB8 hC8 _ rfl _ rfl _ rfl _ rfl _ rfl _ rfl _ rfl _ rfl _ rfl _ rfl _ rfl _ rfl _ rfl
      change Below _ _ _ at hB8
      change wpList _ _ _ _ _ _
      simp only [List.drop_succ_cons, List.drop_zero, Act.put, List.setIfInBounds_toArray, List.set_cons_zero, List.set_cons_succ]
      have HB8 := hide (below_next HBz.out hB8)
      clear hB8 hC8
      replace h2 := hide h2
      go_wp2_with fail
      go_ret
      exact ⟨rfl, HB8.out⟩
    ·
      refine region_do 13 111 [fun v _ => v = .bool true, fun v _ => v = .bool true, fun v _ => v = vE (r2), fun v _ => v = vE (y % P), fun v _ => v = .bool false, fun v _ => v = .bool false, fun v _ => v = vE (r2), fun v _ => v = .pointer (some ⟨bf, 0, none⟩), fun v _ => v = vE (y % P), fun v _ => v = vE (ng P (y % P) % P), fun v _ => v = .bool true, fun v _ => v = .bool true, fun v _ => v = .bool true]
        [(12, .bool true), (11, .pointer (some ⟨b11, 0, none⟩)), (13, .pointer (some ⟨b13, 0, none⟩)), (3, .pointer (some ⟨bf, 0, none⟩))] (fun w' => FQ w' bf bm P n sz ∧ St wg w' [⟨b11, 24, ve r2⟩, ⟨b13, 24, ve (y % P)⟩]) (fun w' => True) 999 none (by kernel_rfl) (by kernel_rfl) rfl rfl
        (.cons (Fact.eq _) rfl (.cons (Fact.eq _) rfl (.cons (Fact.eq _) rfl (.cons (Fact.eq _) rfl (.cons (Fact.eq _) rfl (.cons (Fact.eq _) rfl (.cons (Fact.eq _) rfl (.cons (Fact.eq _) rfl (.cons (Fact.eq _) rfl (.cons (Fact.eq _) rfl (.cons (Fact.eq _) rfl (.cons (Fact.eq _) rfl (.cons (Fact.eq _) rfl (.nil _)))))))))))))) (fun w' h => ⟨HFz.out.next h, hT7.out.next h⟩) (fun w' h => trivial) (by kernel_rfl) (by exact ⟨rfl, rfl, rfl, rfl, trivial⟩) (.cons ?_ (.cons ?_ (.cons ?_ (.cons ?_ (.cons ?_ (.cons ?_ (.cons ?_ (.cons ?_ (.cons ?_ (.cons ?_ (.cons ?_ (.cons ?_ (.cons ?_ .nil))))))))))))) ?_
      · refine Obl.plain rfl _ rfl rfl [] (by kernel_rfl) fun a W hF hC hD K hK => ?_
        have e12 : a.tmps.getD 12 undef = .bool true := hF.1
        clear hF hD hC
        go_simp
        exact hK _ _ rfl (Below.refl _ _)
      · refine Obl.plain rfl _ rfl rfl [0] (by kernel_rfl) fun a W hF hC hD K hK => ?_
        have e98 : a.tmps.getD 98 undef = .bool true := hD.1
        clear hF hD hC
        go_simp
        exact hK _ _ rfl (Below.refl _ _)
      · refine Obl.guarded rfl _ rfl 1 true 99 rfl rfl [1] (by kernel_rfl) (fun a W hF hC hD => hD.1) fun a W hF hC hD K hK => ?_
        obtain ⟨c1, c2⟩ := hC
        have e11 : a.tmps.getD 11 undef = .pointer (some ⟨b11, 0, none⟩) := hF.2.1
        clear hF hD
        exact wpE _ (.tmp 11) rfl (c2.vb 0 _ rfl) e11 Try.underlying24 rfl Try.sz24 (hK _ _ rfl (Below.refl _ _))
      · refine Obl.guarded rfl _ rfl 1 true 99 rfl rfl [1] (by kernel_rfl) (fun a W hF hC hD => hD.1) fun a W hF hC hD K hK => ?_
        obtain ⟨c1, c2⟩ := hC
        have e13 : a.tmps.getD 13 undef = .pointer (some ⟨b13, 0, none⟩) := hF.2.2.1
        clear hF hD
        exact wpE _ (.tmp 13) rfl (c2.vb 1 _ rfl) e13 Try.underlying24 rfl Try.sz24 (hK _ _ rfl (Below.refl _ _))
      · refine Obl.guarded rfl _ rfl 1 true 99 rfl rfl [2, 3, 1] (by kernel_rfl) (fun a W hF hC hD => hD.2.2.1) fun a W hF hC hD K hK => ?_
        have e100 : a.tmps.getD 100 undef = vE (r2) := hD.1
        have e101 : a.tmps.getD 101 undef = vE (y % P) := hD.2.1
        clear hF hD hC
        have f0 := (eqv_lt (Nat.lt_trans hr2P.out HFz.out.lt6) HyP.out).trans (decide_eq_false h2)
        exact wp_eqlN (.tmp 100) (.tmp 101) _ rfl e100 e101 (hK _ _ (congrArg Value.bool f0) (Below.refl _ _))
      · refine Obl.guarded rfl _ rfl 1 true 99 rfl rfl [4, 1, 1] (by kernel_rfl) (fun a W hF hC hD => hD.2.1) fun a W hF hC hD K hK => ?_
        have e102 : a.tmps.getD 102 undef = .bool false := hD.1
        clear hF hD hC
        go_simp
        exact hK _ _ rfl (Below.refl _ _)
      · refine Obl.guarded rfl _ rfl 5 false 103 rfl rfl [5] (by kernel_rfl) (fun a W hF hC hD => hD.1) fun a W hF hC hD K hK => ?_
        obtain ⟨c1, c2⟩ := hC
        have e11 : a.tmps.getD 11 undef = .pointer (some ⟨b11, 0, none⟩) := hF.2.1
        clear hF hD
        exact wpE _ (.tmp 11) rfl (c2.vb 0 _ rfl) e11 Try.underlying24 rfl Try.sz24 (hK _ _ rfl (Below.refl _ _))
      · refine Obl.guarded rfl _ rfl 5 false 103 rfl rfl [5] (by kernel_rfl) (fun a W hF hC hD => hD.1) fun a W hF hC hD K hK => ?_
        have e3 : a.tmps.getD 3 undef = .pointer (some ⟨bf, 0, none⟩) := hF.2.2.2.1
        clear hF hD hC
        go_simp
        exact hK _ _ rfl (Below.refl _ _)
      · refine Obl.guarded rfl _ rfl 5 false 103 rfl rfl [5] (by kernel_rfl) (fun a W hF hC hD => hD.1) fun a W hF hC hD K hK => ?_
        obtain ⟨c1, c2⟩ := hC
        have e13 : a.tmps.getD 13 undef = .pointer (some ⟨b13, 0, none⟩) := hF.2.2.1
        clear hF hD
        exact wpE _ (.tmp 13) rfl (c2.vb 1 _ rfl) e13 Try.underlying24 rfl Try.sz24 (hK _ _ rfl (Below.refl _ _))
      · refine Obl.guarded rfl _ rfl 5 false 103 rfl rfl [7, 8, 5, 5] (by kernel_rfl) (fun a W hF hC hD => hD.2.2.1) fun a W hF hC hD K hK => ?_
        obtain ⟨c1, c2⟩ := hC
        have e105 : a.tmps.getD 105 undef = .pointer (some ⟨bf, 0, none⟩) := hD.1
        have e106 : a.tmps.getD 106 undef = vE (y % P) := hD.2.1
        clear hF hD
        exact wp_callV #[a.tmps.getD 105 undef, a.tmps.getD 106 undef] #[.pointer (some ⟨bf, 0, none⟩), vE (y % P)] (vE (ng P (y % P) % P)) (by kernel_rfl) (by rw [e105, e106]) (fneg_c bf bm P n sz (y % P) W c1 HyP.out) fun w' hb => hK _ _ rfl hb
      · refine Obl.guarded rfl _ rfl 5 false 103 rfl rfl [6, 9, 5] (by kernel_rfl) (fun a W hF hC hD => hD.2.2.1) fun a W hF hC hD K hK => ?_
        have e104 : a.tmps.getD 104 undef = vE (r2) := hD.1
        have e107 : a.tmps.getD 107 undef = vE (ng P (y % P) % P) := hD.2.1
        clear hF hD hC
        have f0 := eqv_of (hr2r.out.resolve_left h2)
        exact wp_eqlN (.tmp 104) (.tmp 107) _ rfl e104 e107 (hK _ _ (congrArg Value.bool f0) (Below.refl _ _))
      · refine Obl.guarded rfl _ rfl 1 true 99 rfl rfl [5, 10, 1] (by kernel_rfl) (fun a W hF hC hD => hD.2.2.1) fun a W hF hC hD K hK => ?_
        have e103 : a.tmps.getD 103 undef = .bool false := hD.1
        have e108 : a.tmps.getD 108 undef = .bool true := hD.2.1
        clear hF hD hC
        exact wp_pick (.tmp 103) (.const (.bool true)) (.tmp 108) rfl (b := false) e103 e108 (hK _ _ rfl (Below.refl _ _))
      · refine Obl.plain rfl _ rfl rfl [1, 11] (by kernel_rfl) fun a W hF hC hD K hK => ?_
        have e99 : a.tmps.getD 99 undef = .bool true := hD.1
        have e109 : a.tmps.getD 109 undef = .bool true := hD.2.1
        clear hF hD hC
        exact wp_pick (.tmp 99) (.tmp 109) (.const (.bool false)) rfl (b := true) e99 e109 (hK _ _ rfl (Below.refl _ _))
      rintro v8 hB8 hC8 _ rfl _ rfl _ rfl _ rfl _ rfl _ rfl _ rfl _ rfl _ rfl _ rfl _ rfl _ rfl _ rfl
      change Below _ _ _ at hB8
      change wpList _ _ _ _ _ _
      simp only [List.drop_succ_cons, List.drop_zero, Act.put, List.setIfInBounds_toArray, List.set_cons_zero, List.set_cons_succ]
      have HB8 := hide (below_next HBz.out hB8)
      clear hB8 hC8
      replace h2 := hide h2
      go_wp2_with fail
      go_ret
      exact ⟨rfl, HB8.out⟩
end Go.Proofs.Ytincemkjdgbnnaa
