/- Walks: the reference's field: Add, Neg, Exp; nat.ModExp. Walks: the reference's field: Add, Neg, Sub, Exp. Walks: the reference's field: Num. -/
import Derived.Test.YtincemkjdgbnnaaNatQ
set_option linter.unusedVariables false
set_option linter.unusedSimpArgs false
namespace Go.Proofs.Ytincemkjdgbnnaa
open Go.RowKit Lm

theorem pow_bit (b e m j : Nat) : b ^ (e / 2 ^ j) % m = (if e / 2 ^ j % 2 = 1 then (b ^ (e / 2 ^ (j + 1)) % m * (b ^ (e / 2 ^ (j + 1)) % m) % m) * (b % m) % m else b ^ (e / 2 ^ (j + 1)) % m * (b ^ (e / 2 ^ (j + 1)) % m) % m) := by
  have h1 : e / 2 ^ (j + 1) = e / 2 ^ j / 2 := by rw [Nat.pow_succ, Nat.div_div_eq_div_mul]
  rw [h1]
  generalize e / 2 ^ j = q
  have h2 := Nat.div_add_mod q 2
  have e1 : b ^ (q / 2) % m * (b ^ (q / 2) % m) % m = b ^ (q / 2) * b ^ (q / 2) % m := (Nat.mul_mod _ _ m).symm
  rw [e1]
  split
  · rename_i h
    rw [← Nat.mul_mod, ← Nat.pow_add, ← Nat.pow_succ]
    congr 2; omega
  · rename_i h
    rw [← Nat.pow_add]
    congr 2; omega

set_option maxRecDepth 100000 in
set_option maxHeartbeats 3200000 in
theorem nmodexp_any (A A' M : Option Addr) (c c' cm b e m : Nat) (w : World) (hr : Rd w .u32 A (digs B32 b)) (hc : (digs B32 b).length ≤ c) (hlim : (digs B32 b).length ≤ 33554432)
    (hr' : Rd w .u32 A' (digs B32 e)) (hc' : (digs B32 e).length ≤ c') (hlim' : (digs B32 e).length ≤ 33554432) (hrm : Rd w .u32 M (digs B32 m)) (hcm : (digs B32 m).length ≤ cm) (hm12 : m < B32 ^ 100) (hm0 : 0 < m) :
    Calls Try.prog 78 #[.slice A (digs B32 b).length c, .slice A' (digs B32 e).length c', .slice M (digs B32 m).length cm] w (RetSl w .u32 (digs B32 (b ^ e % m))) := by
  have hml : (digs B32 m).length ≤ 100 := digs_length_le B32_ge hm12
  have hrl : ∀ t, (digs B32 (t % m)).length ≤ 100 := fun t => digs_length_le B32_ge (Nat.lt_trans (Nat.mod_lt _ hm0) hm12)
  have hpl : ∀ t u, (digs B32 (t % m * (u % m))).length ≤ 200 := fun t u => digs_length_le B32_ge (by
    rw [show (200 : Nat) = 100 + 100 from rfl, Nat.pow_add]; exact Nat.mul_lt_mul'' (Nat.lt_trans (Nat.mod_lt _ hm0) hm12) (Nat.lt_trans (Nat.mod_lt _ hm0) hm12))
  have Hone : Hid (∀ W, Rd W .u32 M (digs B32 m) → ∀ g, Rd W .u32 (some ⟨g, 0, none⟩) [1] → Calls Try.prog 72 #[.slice (some ⟨g, 0, none⟩) 1 1, .slice M (digs B32 m).length cm] W (RetSl W .u32 (digs B32 (1 % m)))) := hide fun W h1 g h2 => by
    have e1 : digs B32 1 = [1] := by decide +kernel
    have := nmod_any (some ⟨g, 0, none⟩) M 1 cm 1 m W (by rw [e1]; exact h2) (by rw [e1]; exact Nat.le_refl _) (by rw [e1]; decide) h1 hcm (Nat.le_trans hml (by decide)) hm0
    rw [e1] at this; exact this
  have Hb := hide (fun W h1 h2 => nmod_any A M c cm b m W h1 hc hlim h2 hcm (Nat.le_trans hml (by decide)) hm0)
  have Hlen := hide (fun W h1 => nlen_any A' c' e W h1 hc' (by omega))
  have Hbit := hide (fun i W h1 h2 => nbit_any A' c' (digs B32 e) i W h1 hc' (by unfold lim; omega) (digs_ok B32_ge e) h2)
  rw [val_digs B32_ge] at Hbit
  have Hmul := hide (fun t u A1 A2 c1 c2 W h1 h2 h3 h4 => nmul_any A1 A2 c1 c2 (t % m) (u % m) W h1 h2 (Nat.lt_of_le_of_lt (hrl t) (by decide)) h3 h4 (Nat.lt_of_le_of_lt (hrl u) (by decide)))
  have Hmd := hide (fun t u A1 c1 W h1 h2 h3 => nmod_any A1 M c1 cm (t % m * (u % m)) m W h1 h2 (Nat.le_trans (hpl t u) (by decide)) h3 hcm (Nat.le_trans hml (by decide)) hm0)
  have hbl : blen e ≤ 32 * (digs B32 e).length := blen_le_of_lt (by rw [Nat.pow_mul]; exact digs_lt B32_ge e)
  have hbl2 : blen e ≤ 1073741824 := by omega
  have he0 := hide (show e / 2 ^ blen e = 0 from Nat.div_eq_of_lt (lt_blen e))
  have Hr := hide hr
  have Hr' := hide hr'
  have Hrm := hide hrm
  clear hr hr' hrm hc hc' hlim hlim' hcm hm12 hml hrl hpl hbl
  generalize digs B32 b = Lb at *
  generalize digs B32 e = Le at *
  generalize digs B32 m = Lm' at *
  generalize hbb : blen e = bb at *
  replace hbb := hide hbb
  have hb0 := hide (show Below w.heap.size w (w.alloc (.cells #[.int .u32 1] 95)) from below_alloc (Below.refl _ _) _)
  have hrd1 := hide (show Rd (w.alloc (.cells #[.int .u32 1] 95)) .u32 (some ⟨w.heap.size, 0, none⟩) [1] from fun _ => ⟨_, _, rfl, (Blk.new w .u32 95 [1]).row0⟩)
  have iw := wrap_in ((bb : Int) - 1) (by omega) (by omega)
  go_enter Try.func78, Try.ntmps78
  go_wp2_with (first
    | (go_at_call 102; refine (Hlen.out w3 (((Hr'.out.below hb0.out).below hb2.out).below hb3.out)).mono ?_; rintro e w4 ⟨rfl, rfl⟩)
    | (go_at_call 72; refine (Hb.out w2 ((Hr.out.below hb0.out).below hb2.out) ((Hrm.out.below hb0.out).below hb2.out)).mono ?_; rintro e w3 ⟨A3, c3, rfl, hc3, hr3, hb3⟩; replace hc3 := hide hc3; replace hr3 := hide hr3; replace hb3 := hide hb3)
    | (go_at_call 72; refine (Hone.out _ (Hrm.out.below hb0.out) w.heap.size hrd1.out).mono ?_; rintro e w2 ⟨A2, c2, rfl, hc2, hr2, hb2⟩; replace hc2 := hide hc2; replace hr2 := hide hr2; replace hb2 := hide hb2))
  have HB4 := hide (below_next (below_next hb0.out hb2.out) hb3.out)
  have HE4 := hide (((Hr'.out.below hb0.out).below hb2.out).below hb3.out)
  have HM4 := hide (((Hrm.out.below hb0.out).below hb2.out).below hb3.out)
  have H24 := hide (hr2.out.below hb3.out)
  clear iw Hone Hb Hlen hb0 hrd1 Hr Hr' Hrm hr2 hb2 hb3
  go_loopw [7, 9] (fun r k wr => ∃ j : Nat, j ≤ bb ∧ k = .int .i64 ((j : Int) - 1) ∧ Below w4.heap.size w4 wr ∧ SlIs .u32 (digs B32 (b ^ (e / 2 ^ j) % m)) r wr) (fun _ k _ => (intOf k + 1).toNat)
  case atStart => exact ⟨bb, Nat.le_refl _, rfl, Below.refl _ _, by rw [he0.out, Nat.pow_zero]; exact ⟨A2, c2, rfl, hc2.out, H24.out⟩⟩
  case round =>
    obtain ⟨j, hj, rfl, hbw, Ar, cr, rfl, hcr, hrr⟩ := hrel
    clear hc2 H24
    by_cases h0 : 0 < j
    · obtain ⟨i, rfl⟩ : ∃ i, j = i + 1 := ⟨j - 1, by omega⟩
      rw [show ((i + 1 : Nat) : Int) - 1 = (i : Int) by omega]
      have hpb := hide (pow_bit b e m i)
      have hbt := hide (fun W h => Hbit.out i W h (by omega))
      have iw := wrap_in ((i : Int) - 1) (by omega) (by omega)
      obtain ⟨Y, hY⟩ : ∃ Y, Y = b ^ (e / 2 ^ (i + 1)) := ⟨_, rfl⟩
      rw [← hY] at hcr hrr hpb ⊢
      replace hY := hide hY
      obtain ⟨Z, hZ⟩ : ∃ Z, Z = Y % m * (Y % m) := ⟨_, rfl⟩
      have hm1 := hide (fun A1 A2 c1 c2 W h1 h2 h3 h4 => Hmul.out Y Y A1 A2 c1 c2 W h1 h2 h3 h4)
      have hd1 := hide (fun A1 c1 W h1 h2 h3 => Hmd.out Y Y A1 c1 W h1 h2 h3)
      rw [← hZ] at hm1 hd1 hpb
      replace hZ := hide hZ
      have hm2 := hide (fun A1 A2 c1 c2 W h1 h2 h3 h4 => Hmul.out Z b A1 A2 c1 c2 W h1 h2 h3 h4)
      have hd2 := hide (fun A1 c1 W h1 h2 h3 => Hmd.out Z b A1 c1 W h1 h2 h3)
      obtain ⟨T, hT⟩ : ∃ T, T = Z % m * (b % m) % m := ⟨_, rfl⟩
      rw [← hT] at hd2 hpb
      replace hT := hide hT
      obtain ⟨bt, hbe⟩ : ∃ t, t = e / 2 ^ i % 2 := ⟨_, rfl⟩
      rw [← hbe] at hbt hpb
      replace hbe := hide hbe
      have Hbw := hide hbw
      have Hcr := hide hcr
      have Hrr := hide hrr
      have hj' := hide hj
      clear hbw hcr hrr hj
      generalize hLy : digs B32 (Y % m) = Ly at *
      replace hLy := hide hLy
      by_cases hb1 : bt = 1
      · subst hb1
        rw [if_pos rfl] at hpb
        go_wp2_with (first
          | (go_at_call 72; refine (hd2.out A8 c8 w8 hr8.out hc8.out ((((HM4.out.below Hbw.out).below hb5.out).below hb6.out).below hb8.out)).mono ?_; rintro e w9 ⟨A9, c9, rfl, hc9, hr9, hb9⟩; replace hc9 := hide hc9; replace hr9 := hide hr9; replace hb9 := hide hb9)
          | (go_at_call 74; refine (hm2.out A6 A3 c6 c3 w7 hr6.out hc6.out (((hr3.out.below Hbw.out).below hb5.out).below hb6.out) hc3.out).mono ?_; rintro e w8 ⟨A8, c8, rfl, hc8, hr8, hb8⟩; replace hc8 := hide hc8; replace hr8 := hide hr8; replace hb8 := hide hb8)
          | (go_at_call 103; refine (hbt.out w6 (((HE4.out.below Hbw.out).below hb5.out).below hb6.out)).mono ?_; rintro e w7 ⟨rfl, rfl⟩)
          | (go_at_call 72; refine (hd1.out A5 c5 w5 hr5.out hc5.out ((HM4.out.below Hbw.out).below hb5.out)).mono ?_; rintro e w6 ⟨A6, c6, rfl, hc6, hr6, hb6⟩; replace hc6 := hide hc6; replace hr6 := hide hr6; replace hb6 := hide hb6)
          | (go_at_call 74; refine (hm1.out Ar Ar cr cr wr Hrr.out Hcr.out Hrr.out Hcr.out).mono ?_; rintro e w5 ⟨A5, c5, rfl, hc5, hr5, hb5⟩; replace hc5 := hide hc5; replace hr5 := hide hr5; replace hb5 := hide hb5))
        exact ⟨⟨i, by have := hj'.out; omega, by simp, below_next (below_next (below_next (below_next Hbw.out hb5.out) hb6.out) hb8.out) hb9.out, by rw [hpb.out]; exact ⟨A9, c9, rfl, hc9.out, hr9.out⟩⟩, by simp [intOf]⟩
      · rw [if_neg hb1] at hpb
        have hb2 : ((bt : Int) == 1) = false := by rw [beq_eq_false_iff_ne]; omega
        replace hb1 := hide hb1
        go_wp2_with (first
          | (go_at_call 103; refine (hbt.out w6 (((HE4.out.below Hbw.out).below hb5.out).below hb6.out)).mono ?_; rintro e w7 ⟨rfl, rfl⟩)
          | (go_at_call 72; refine (hd1.out A5 c5 w5 hr5.out hc5.out ((HM4.out.below Hbw.out).below hb5.out)).mono ?_; rintro e w6 ⟨A6, c6, rfl, hc6, hr6, hb6⟩; replace hc6 := hide hc6; replace hr6 := hide hr6; replace hb6 := hide hb6)
          | (go_at_call 74; refine (hm1.out Ar Ar cr cr wr Hrr.out Hcr.out Hrr.out Hcr.out).mono ?_; rintro e w5 ⟨A5, c5, rfl, hc5, hr5, hb5⟩; replace hc5 := hide hc5; replace hr5 := hide hr5; replace hb5 := hide hb5))
        exact ⟨⟨i, by have := hj'.out; omega, by simp, below_next (below_next Hbw.out hb5.out) hb6.out, by rw [hpb.out]; exact ⟨A6, c6, rfl, hc6.out, hr6.out⟩⟩, by simp [intOf]⟩
    · obtain rfl : j = 0 := by omega
      rw [Nat.pow_zero, Nat.div_one] at hcr hrr
      have Hbw := hide hbw
      have Hcr := hide hcr
      have Hrr := hide hrr
      clear hbw hcr hrr
      rw [Nat.pow_zero, Nat.div_one]
      go_wp2_with fail
      go_ret
      exact retsl_mk (below_next HB4.out Hbw.out) rfl Hcr.out Hrr.out
end Go.Proofs.Ytincemkjdgbnnaa

set_option linter.unusedVariables false
set_option linter.unusedSimpArgs false
namespace Go.Proofs.Ytincemkjdgbnnaa
open Go.RowKit Lm

set_option maxRecDepth 100000 in
set_option maxHeartbeats 1600000 in
theorem radd_any (Af A A' : Option Addr) (P cf sz c c' x y : Nat) (w : World) (hrP : Rd w .u32 Af (digs B32 P)) (hcf : (digs B32 P).length ≤ cf) (hP12 : P < B32 ^ 12)
    (hr : Rd w .u32 A (digs B32 x)) (hc : (digs B32 x).length ≤ c) (hr' : Rd w .u32 A' (digs B32 y)) (hc' : (digs B32 y).length ≤ c') (hx : x < P) (hy : y < P) :
    Calls Try.prog 33 #[.agg (vF Af P cf sz).toArray, .slice A (digs B32 x).length c, .slice A' (digs B32 y).length c'] w (RetSl w .u32 (digs B32 ((x + y) % P))) := by
  have hl : ∀ {t}, t < P → (digs B32 t).length < lim := fun h => Nat.lt_of_le_of_lt (digs_length_le B32_ge (Nat.lt_trans h hP12)) (by decide)
  have hPl : (digs B32 P).length ≤ 12 := digs_length_le B32_ge hP12
  have hsl : (digs B32 (x + y)).length ≤ 13 := digs_length_le B32_ge (by
    have : 2 * B32 ^ 12 ≤ B32 ^ 13 := by decide +kernel
    omega)
  have Hadd := hide (fun W h1 h2 => nadd_any A A' c c' x y W h1 hc (hl hx) h2 hc' (hl hy))
  have Hcmp := hide (fun A1 c1 W h1 h2 => ncmp_any A1 Af c1 cf (x + y) P W h1 h2 (Nat.le_trans hsl (by decide)) (Nat.le_trans hPl (by decide)))
  have Hsub := hide (fun h0 A1 c1 W h1 h2 h3 => nsub_any A1 Af c1 cf (x + y) P W h1 h2 (Nat.lt_of_le_of_lt hsl (by decide)) h3 hcf h0)
  have hxy := hide (show x + y < 2 * P by omega)
  have Hr := hide hr
  have Hr' := hide hr'
  have HrP := hide hrP
  have hvF : vF Af P cf sz = [.slice Af (digs B32 P).length cf, .int .i64 (sz : Int)] := rfl
  rw [hvF]
  clear hr hrP hr' hcf hc hc' hvF hx hy hl hPl hsl hP12
  generalize x + y = s at *
  generalize digs B32 x = Lx at *
  generalize digs B32 y = Ly at *
  generalize digs B32 P = DP at *
  obtain ⟨ci, hci⟩ : ∃ t, t = cmpI s P := ⟨_, rfl⟩
  rw [← hci] at Hcmp
  go_enter Try.func33, Try.ntmps33
  by_cases hge : P ≤ s
  · have h0 : (0 : Int) ≤ ci := by rw [hci]; unfold cmpI; rw [if_neg (by omega)]; split <;> decide
    have he : s % P = s - P := by
      have := hxy.out
      rw [Nat.mod_eq_sub_mod hge, Nat.mod_eq_of_lt (by omega)]
    have hs := hide (Hsub.out hge)
    replace hci := hide hci
    replace hge := hide hge
    rw [he]
    replace he := hide he
    generalize hDs : digs B32 s = Ds at *
    replace hDs := hide hDs
    go_wp2_with (first
      | ((with_reducible refine wpList_box (o := ⟨some 3, _, _, _, _, _⟩) ?_ 32 (.tmp 0) ?_ [.slice Af DP.length cf, .int .i64 (sz : Int)] ?_ ?_); rfl; rfl; rfl; intro w1 b1 h1 hv1 h3 h4; have hn1 : New w w1 b1 := ⟨by rw [h1]; exact Nat.le_refl _, by rw [h4]; omega, h3⟩; clear h1 h3 h4; replace hv1 := hide hv1; replace hn1 := hide hn1)
      | (go_at_call 76; refine (hs.out A2 c2 w3 (hr2.out.below hb3.out) hc2.out (((HrP.out.below hn1.out.bl).below hb2.out).below hb3.out)).mono ?_; rintro e w4 ⟨A4, c4, rfl, hc4, hr4, hb4⟩; replace hc4 := hide hc4; replace hr4 := hide hr4; replace hb4 := hide hb4)
      | (go_at_call 21; refine (Hcmp.out A2 c2 w2 hr2.out ((HrP.out.below hn1.out.bl).below hb2.out)).mono ?_; rintro e w3 ⟨rfl, hb3⟩; have r3 : w3.cell? ⟨b1, 0, none⟩ = some (.slice Af DP.length cf) := ((hv1.out.next hb2.out).next hb3).cell 0; replace hb3 := hide hb3)
      | (go_at_call 15; refine (Hadd.out w1 (Hr.out.below hn1.out.bl) (Hr'.out.below hn1.out.bl)).mono ?_; rintro e w2 ⟨A2, c2, rfl, hc2, hr2, hb2⟩; have r2 : w2.cell? ⟨b1, 0, none⟩ = some (.slice Af DP.length cf) := (hv1.out.next hb2).cell 0; replace hc2 := hide hc2; replace hr2 := hide hr2; replace hb2 := hide hb2))
    go_ret
    exact retsl_mk (below_next (below_next (below_next hn1.out.bl hb2.out) hb3.out) hb4.out) rfl hc4.out hr4.out
  · have h0 : ¬ (0 : Int) ≤ ci := by rw [hci]; unfold cmpI; rw [if_pos (by omega)]; decide
    have he : s % P = s := Nat.mod_eq_of_lt (by omega)
    replace hci := hide hci
    replace hge := hide hge
    rw [he]
    replace he := hide he
    generalize hDs : digs B32 s = Ds at *
    replace hDs := hide hDs
    clear Hsub
    go_wp2_with (first
      | ((with_reducible refine wpList_box (o := ⟨some 3, _, _, _, _, _⟩) ?_ 32 (.tmp 0) ?_ [.slice Af DP.length cf, .int .i64 (sz : Int)] ?_ ?_); rfl; rfl; rfl; intro w1 b1 h1 hv1 h3 h4; have hn1 : New w w1 b1 := ⟨by rw [h1]; exact Nat.le_refl _, by rw [h4]; omega, h3⟩; clear h1 h3 h4; replace hv1 := hide hv1; replace hn1 := hide hn1)
      | (go_at_call 21; refine (Hcmp.out A2 c2 w2 hr2.out ((HrP.out.below hn1.out.bl).below hb2.out)).mono ?_; rintro e w3 ⟨rfl, hb3⟩; replace hb3 := hide hb3)
      | (go_at_call 15; refine (Hadd.out w1 (Hr.out.below hn1.out.bl) (Hr'.out.below hn1.out.bl)).mono ?_; rintro e w2 ⟨A2, c2, rfl, hc2, hr2, hb2⟩; have r2 : w2.cell? ⟨b1, 0, none⟩ = some (.slice Af DP.length cf) := (hv1.out.next hb2).cell 0; replace hc2 := hide hc2; replace hr2 := hide hr2; replace hb2 := hide hb2))
    go_ret
    exact retsl_mk (below_next (below_next hn1.out.bl hb2.out) hb3.out) rfl hc2.out (hr2.out.below hb3.out)

set_option maxRecDepth 100000 in
set_option maxHeartbeats 1600000 in
theorem rneg_any (Af A : Option Addr) (P cf sz c y : Nat) (w : World) (hrP : Rd w .u32 Af (digs B32 P)) (hcf : (digs B32 P).length ≤ cf) (hP12 : P < B32 ^ 12)
    (hr : Rd w .u32 A (digs B32 y)) (hc : (digs B32 y).length ≤ c) (hy : y < P) :
    Calls Try.prog 37 #[.agg (vF Af P cf sz).toArray, .slice A (digs B32 y).length c] w (RetSl w .u32 (digs B32 (ng P y % P))) := by
  have hPl : (digs B32 P).length ≤ 12 := digs_length_le B32_ge hP12
  have Hsub := hide (fun W h1 h3 => nsub_any Af A cf c P y W h1 hcf (Nat.lt_of_le_of_lt hPl (by decide)) h3 hc (Nat.le_of_lt hy))
  have Hr := hide hr
  have Hc := hide hc
  have HrP := hide hrP
  have hvF : vF Af P cf sz = [.slice Af (digs B32 P).length cf, .int .i64 (sz : Int)] := rfl
  rw [hvF]
  by_cases h0 : y = 0
  · subst h0
    have he : ng P 0 % P = 0 := by unfold ng; rw [Nat.zero_mod, Nat.sub_zero, Nat.mod_self]
    rw [he]
    have hl : (digs B32 0).length = 0 := by rw [digs_zero]; rfl
    have Hl := hide hl
    clear hr hrP hcf hc hvF hPl hP12 hy he Hsub
    rw [hl]
    rw [hl] at Hc
    clear hl
    generalize digs B32 P = DP at *
    go_enter Try.func37, Try.ntmps37
    go_wp2_with ((with_reducible refine wpList_box (o := ⟨some 2, _, _, _, _, _⟩) ?_ 32 (.tmp 0) ?_ [.slice Af DP.length cf, .int .i64 (sz : Int)] ?_ ?_); rfl; rfl; rfl; intro w1 b1 h1 hv1 h3 h4; have hn1 : New w w1 b1 := ⟨by rw [h1]; exact Nat.le_refl _, by rw [h4]; omega, h3⟩; clear h1 h3 h4; replace hv1 := hide hv1; replace hn1 := hide hn1)
    go_ret
    exact retsl_mk hn1.out.bl Hl.out Hc.out (Hr.out.below hn1.out.bl)
  · have he : ng P y % P = P - y := by unfold ng; rw [Nat.mod_eq_of_lt hy, Nat.mod_eq_of_lt (by omega)]
    rw [he]
    have hl : 0 < (digs B32 y).length := Nat.pos_of_ne_zero fun h => h0 ((digs_eq_nil B32_ge).1 (List.length_eq_zero_iff.1 h))
    replace h0 := hide h0
    clear hr hrP hcf hc hvF hPl hP12 hy he
    generalize hDy : digs B32 y = Dy at *
    replace hDy := hide hDy
    generalize digs B32 P = DP at *
    obtain ⟨my, hmy⟩ : ∃ t, t = Dy.length := ⟨_, rfl⟩
    rw [← hmy] at Hsub hl ⊢
    replace hmy := hide hmy
    go_enter Try.func37, Try.ntmps37
    have hz : ((my : Int) == 0) = false := by rw [beq_eq_false_iff_ne]; omega
    go_wp2_with (first
      | ((with_reducible refine wpList_box (o := ⟨some 2, _, _, _, _, _⟩) ?_ 32 (.tmp 0) ?_ [.slice Af DP.length cf, .int .i64 (sz : Int)] ?_ ?_); rfl; rfl; rfl; intro w1 b1 h1 hv1 h3 h4; have hn1 : New w w1 b1 := ⟨by rw [h1]; exact Nat.le_refl _, by rw [h4]; omega, h3⟩; have r0 : w1.cell? ⟨b1, 0, none⟩ = some (.slice Af DP.length cf) := hv1.cell 0; clear h1 h3 h4; replace hv1 := hide hv1; replace hn1 := hide hn1)
      | (go_at_call 76; refine (Hsub.out w1 (HrP.out.below hn1.out.bl) (Hr.out.below hn1.out.bl)).mono ?_; rintro e w4 ⟨A4, c4, rfl, hc4, hr4, hb4⟩; replace hc4 := hide hc4; replace hr4 := hide hr4; replace hb4 := hide hb4))
    go_ret
    exact retsl_mk (below_next hn1.out.bl hb4.out) rfl hc4.out hr4.out

set_option maxRecDepth 100000 in
set_option maxHeartbeats 1600000 in
theorem rexp_any (Af A A' : Option Addr) (P cf sz c c' b e : Nat) (w : World) (hrP : Rd w .u32 Af (digs B32 P)) (hcf : (digs B32 P).length ≤ cf) (hP12 : P < B32 ^ 12) (hP0 : 0 < P)
    (hr : Rd w .u32 A (digs B32 b)) (hc : (digs B32 b).length ≤ c) (hlim : (digs B32 b).length ≤ 33554432) (hr' : Rd w .u32 A' (digs B32 e)) (hc' : (digs B32 e).length ≤ c') (hlim' : (digs B32 e).length ≤ 33554432) :
    Calls Try.prog 38 #[.agg (vF Af P cf sz).toArray, .slice A (digs B32 b).length c, .slice A' (digs B32 e).length c'] w (RetSl w .u32 (digs B32 (b ^ e % P))) := by
  have Hm := hide (fun W h1 h2 h3 => nmodexp_any A A' Af c c' cf b e P W h1 hc hlim h2 hc' hlim' h3 hcf (Nat.lt_of_lt_of_le hP12 (Nat.pow_le_pow_right B32_pos (by decide))) hP0)
  have Hr := hide hr
  have Hr' := hide hr'
  have HrP := hide hrP
  have hvF : vF Af P cf sz = [.slice Af (digs B32 P).length cf, .int .i64 (sz : Int)] := rfl
  rw [hvF]
  clear hr hrP hr' hcf hc hc' hvF hlim hlim' hP12 hP0
  generalize b ^ e % P = r at *
  generalize digs B32 b = Lb at *
  generalize digs B32 e = Le at *
  generalize digs B32 P = DP at *
  go_enter Try.func38, Try.ntmps38
  go_wp2_with (first
    | ((with_reducible refine wpList_box (o := ⟨some 3, _, _, _, _, _⟩) ?_ 32 (.tmp 0) ?_ [.slice Af DP.length cf, .int .i64 (sz : Int)] ?_ ?_); rfl; rfl; rfl; intro w1 b1 h1 hv1 h3 h4; have hn1 : New w w1 b1 := ⟨by rw [h1]; exact Nat.le_refl _, by rw [h4]; omega, h3⟩; have r0 : w1.cell? ⟨b1, 0, none⟩ = some (.slice Af DP.length cf) := hv1.cell 0; clear h1 h3 h4; replace hv1 := hide hv1; replace hn1 := hide hn1)
    | (go_at_call 78; refine (Hm.out w1 (Hr.out.below hn1.out.bl) (Hr'.out.below hn1.out.bl) (HrP.out.below hn1.out.bl)).mono ?_; rintro e w4 ⟨A4, c4, rfl, hc4, hr4, hb4⟩; replace hc4 := hide hc4; replace hr4 := hide hr4; replace hb4 := hide hb4))
  go_ret
  exact retsl_mk (below_next hn1.out.bl hb4.out) rfl hc4.out hr4.out

set_option maxRecDepth 100000 in
set_option maxHeartbeats 1600000 in
theorem rsub_any (Af A A' : Option Addr) (P cf sz c c' x y : Nat) (w : World) (hrP : Rd w .u32 Af (digs B32 P)) (hcf : (digs B32 P).length ≤ cf) (hP12 : P < B32 ^ 12)
    (hr : Rd w .u32 A (digs B32 x)) (hc : (digs B32 x).length ≤ c) (hr' : Rd w .u32 A' (digs B32 y)) (hc' : (digs B32 y).length ≤ c') (hx : x < P) (hy : y < P) :
    Calls Try.prog 35 #[.agg (vF Af P cf sz).toArray, .slice A (digs B32 x).length c, .slice A' (digs B32 y).length c'] w (RetSl w .u32 (digs B32 ((x + ng P y % P) % P))) := by
  have Hneg := hide (fun W h1 h2 => rneg_any Af A' P cf sz c' y W h1 hcf hP12 h2 hc' hy)
  have Hadd := hide (fun A2 c2 W h1 h2 h3 h4 => radd_any Af A A2 P cf sz c c2 x (ng P y % P) W h1 hcf hP12 h2 hc h3 h4 hx (Nat.mod_lt _ (by omega)))
  have Hr := hide hr
  have Hr' := hide hr'
  have HrP := hide hrP
  have hvF : vF Af P cf sz = [.slice Af (digs B32 P).length cf, .int .i64 (sz : Int)] := rfl
  rw [hvF] at Hneg Hadd
  rw [hvF]
  clear hr hrP hr' hcf hc hc' hvF hx hy hP12
  generalize (x + ng P y % P) % P = r at *
  generalize ng P y % P = v0 at *
  generalize digs B32 x = Lx at *
  generalize digs B32 y = Ly at *
  generalize digs B32 P = DP at *
  generalize digs B32 v0 = Lv at *
  go_enter Try.func35, Try.ntmps35
  go_upto_region 1 with ((with_reducible refine wpList_box (o := ⟨some 3, _, _, _, _, _⟩) ?_ 32 (.tmp 0) ?_ [.slice Af DP.length cf, .int .i64 (sz : Int)] ?_ ?_); rfl; rfl; rfl; intro w1 b1 h1 hv1 h3 h4; have hn1 : New w w1 b1 := ⟨by rw [h1]; exact Nat.le_refl _, by rw [h4]; omega, h3⟩; clear h1 h3 h4; replace hv1 := hide hv1; replace hn1 := hide hn1)
  refine region_do 6 13 [fun v _ => v = .agg ([.slice Af DP.length cf, .int .i64 (sz : Int)] : List Value).toArray, fun v _ => v = .slice A Lx.length c, fun v _ => v = .agg ([.slice Af DP.length cf, .int .i64 (sz : Int)] : List Value).toArray, fun v _ => v = .slice A' Ly.length c', fun v w => SlIs .u32 Lv v w, fun v w => SlIs .u32 (digs B32 r) v w]
    [(3, .pointer (some ⟨b1, 0, none⟩)), (1, .slice A Lx.length c), (2, .slice A' Ly.length c')] (fun w' => Rd w' .u32 A Lx ∧ Rd w' .u32 A' Ly ∧ VB w' b1 32 [.slice Af DP.length cf, .int .i64 (sz : Int)] ∧ Rd w' .u32 Af DP) (fun w' => True) 999 none (by kernel_rfl) (by kernel_rfl) rfl rfl
    (.cons (Fact.eq _) rfl (.cons (Fact.eq _) rfl (.cons (Fact.eq _) rfl (.cons (Fact.eq _) rfl (.cons (SlIs.st) rfl (.cons (SlIs.st) rfl (.nil _))))))) (fun w' h => ⟨(Hr.out.below hn1.out.bl).below h, (Hr'.out.below hn1.out.bl).below h, hv1.out.next h, (HrP.out.below hn1.out.bl).below h⟩) (fun w' h => trivial) (by kernel_rfl) ⟨rfl, rfl, rfl, trivial⟩ (.cons ?_ (.cons ?_ (.cons ?_ (.cons ?_ (.cons ?_ (.cons ?_ .nil)))))) ?_
  · refine Obl.plain rfl _ rfl rfl [] (by kernel_rfl) fun a W hF hC hD K hK => ?_
    obtain ⟨c1, c2, c3, c4⟩ := hC
    have e3 : a.tmps.getD 3 undef = .pointer (some ⟨b1, 0, none⟩) := hF.1
    clear hF hD
    exact wp_load_mid 32 (.tmp 3) rfl b1 0 e3 [.slice Af DP.length cf, .int .i64 (sz : Int)] _ (fun j v hj => by rw [Nat.zero_add, c3.cell, hj]) Try.underlying32 rfl Try.szF (hK _ _ rfl (Below.refl _ _))
  · refine Obl.plain rfl _ rfl rfl [] (by kernel_rfl) fun a W hF hC hD K hK => ?_
    have e1 : a.tmps.getD 1 undef = .slice A Lx.length c := hF.2.1
    clear hF hD hC
    go_simp
    exact hK _ _ rfl (Below.refl _ _)
  · refine Obl.plain rfl _ rfl rfl [] (by kernel_rfl) fun a W hF hC hD K hK => ?_
    obtain ⟨c1, c2, c3, c4⟩ := hC
    have e3 : a.tmps.getD 3 undef = .pointer (some ⟨b1, 0, none⟩) := hF.1
    clear hF hD
    exact wp_load_mid 32 (.tmp 3) rfl b1 0 e3 [.slice Af DP.length cf, .int .i64 (sz : Int)] _ (fun j v hj => by rw [Nat.zero_add, c3.cell, hj]) Try.underlying32 rfl Try.szF (hK _ _ rfl (Below.refl _ _))
  · refine Obl.plain rfl _ rfl rfl [] (by kernel_rfl) fun a W hF hC hD K hK => ?_
    have e2 : a.tmps.getD 2 undef = .slice A' Ly.length c' := hF.2.2.1
    clear hF hD hC
    go_simp
    exact hK _ _ rfl (Below.refl _ _)
  · refine Obl.plain rfl _ rfl rfl [2, 3] (by kernel_rfl) fun a W hF hC hD K hK => ?_
    obtain ⟨c1, c2, c3, c4⟩ := hC
    have e9 : a.tmps.getD 9 undef = .agg ([.slice Af DP.length cf, .int .i64 (sz : Int)] : List Value).toArray := hD.1
    have e10 : a.tmps.getD 10 undef = .slice A' Ly.length c' := hD.2.1
    clear hF hD
    exact wp_callS #[a.tmps.getD 9 undef, a.tmps.getD 10 undef] #[.agg ([.slice Af DP.length cf, .int .i64 (sz : Int)] : List Value).toArray, .slice A' Ly.length c'] (by kernel_rfl) (by rw [e9, e10]) (Hneg.out W c4 c2) (fun v w' h hb => hK _ _ h hb)
  · refine Obl.plain rfl _ rfl rfl [0, 1, 4, 4] (by kernel_rfl) fun a W hF hC hD K hK => ?_
    obtain ⟨c1, c2, c3, c4⟩ := hC
    have e7 : a.tmps.getD 7 undef = .agg ([.slice Af DP.length cf, .int .i64 (sz : Int)] : List Value).toArray := hD.1
    have e8 : a.tmps.getD 8 undef = .slice A Lx.length c := hD.2.1
    have e11 : (fun (v : Value) (w : World) => SlIs .u32 Lv v w) (a.tmps.getD 11 undef) W := hD.2.2.1
    clear hF hD
    obtain ⟨A11, c11, q11, hc11, hr11⟩ := e11
    exact wp_callS #[a.tmps.getD 7 undef, a.tmps.getD 8 undef, a.tmps.getD 11 undef] #[.agg ([.slice Af DP.length cf, .int .i64 (sz : Int)] : List Value).toArray, .slice A Lx.length c, .slice A11 Lv.length c11] (by kernel_rfl) (by rw [e7, e8, q11]) (Hadd.out A11 c11 W c4 c1 hr11 hc11) (fun v w' h hb => hK _ _ h hb)
  rintro w2 hB2 hC2 _ rfl _ rfl _ rfl _ rfl v11 g11 v12 g12
  change Below _ _ _ at hB2
  change wpList _ _ _ _ _ _
  simp only [List.drop_succ_cons, List.drop_zero, Act.put, List.setIfInBounds_toArray, List.set_cons_zero, List.set_cons_succ]
  obtain ⟨A12, c12, rfl, hc12, hr12⟩ := g12
  replace hc12 := hide hc12
  replace hr12 := hide hr12
  replace hB2 := hide hB2
  clear g11 hC2
  go_wp2_with fail
  go_ret
  exact retsl_mk (below_next hn1.out.bl hB2.out) rfl hc12.out hr12.out
end Go.Proofs.Ytincemkjdgbnnaa

set_option linter.unusedVariables false
set_option linter.unusedSimpArgs false
namespace Go.Proofs.Ytincemkjdgbnnaa
open Go.RowKit Lm

/-- one digit of 32 bits is laid into its limb. -/
theorem lay64_step {N i V d : Nat} (hi : i < 2 * N) (hV : V < B32 ^ i) (hd : d < B32) :
    (fix B64 N V).set (i / 2) (nth (fix B64 N V) (i / 2) ||| d * 2 ^ (32 * (i % 2))) = fix B64 N (V + B32 ^ i * d) ∧ d * 2 ^ (32 * (i % 2)) < B64 := by
  have hj : i / 2 < N := by omega
  have hr : i % 2 < 2 := Nat.mod_lt _ (by omega)
  have ha := Nat.div_add_mod i 2
  generalize i / 2 = j at *
  generalize i % 2 = r at *
  have e32 : ∀ k, B32 ^ k = 2 ^ (32 * k) := fun k => by rw [Nat.pow_mul]; rfl
  have eB : ∀ k, B64 ^ k = 2 ^ (64 * k) := fun k => by rw [Nat.pow_mul]; rfl
  have hold : nth (fix B64 N V) j = V / B64 ^ j % B64 := nth_fix hj
  have hlt : d * 2 ^ (32 * r) < 2 ^ (32 * r + 32) := by
    rw [Nat.pow_add, Nat.mul_comm]; exact Nat.mul_lt_mul_of_pos_left (by exact hd) (Nat.pow_pos (by omega))
  have hle : 2 ^ (32 * r + 32) ≤ B64 := Nat.pow_le_pow_right (by omega) (show 32 * r + 32 ≤ 64 by omega)
  have hVj : V / B64 ^ j < 2 ^ (32 * r) := by
    rw [Nat.div_lt_iff_lt_mul (pw_pos j), eB, ← Nat.pow_add, show 32 * r + 64 * j = 32 * i by omega, ← e32]
    exact hV
  have hVB : V / B64 ^ j % B64 = V / B64 ^ j := Nat.mod_eq_of_lt (Nat.lt_of_lt_of_le hVj (Nat.pow_le_pow_right (by omega) (show 32 * r ≤ 64 by omega)))
  refine ⟨?_, by omega⟩
  rw [hold, hVB, Nat.or_comm, or_add (Nat.mul_mod_left _ _) hVj]
  have hnew : d * 2 ^ (32 * r) + V / B64 ^ j < B64 := by
    have : d * 2 ^ (32 * r) + 2 ^ (32 * r) ≤ 2 ^ (32 * r + 32) := by
      rw [← Nat.succ_mul, Nat.pow_add, Nat.mul_comm]; exact Nat.mul_le_mul_left _ (by exact hd)
    omega
  have hadd : B32 ^ i * d = B64 ^ j * (d * 2 ^ (32 * r)) := by
    rw [e32, eB, show 32 * i = 64 * j + 32 * r by omega, Nat.pow_add, Nat.mul_assoc, Nat.mul_comm d]
  have hVN : V + B32 ^ i * d < B64 ^ N := by
    have h1 : B32 ^ (i + 1) ≤ B64 ^ N := by rw [e32, eB]; exact Nat.pow_le_pow_right (by omega) (by omega)
    have h2 : B32 ^ i * d + B32 ^ i ≤ B32 ^ (i + 1) := by rw [← Nat.mul_succ, Nat.pow_succ]; exact Nat.mul_le_mul_left _ hd
    omega
  refine val_inj (Ok.set (fix_ok B64_pos _ _) hnew) (fix_ok B64_pos _ _) (by rw [List.length_set, fix_length, fix_length]) ?_
  have hs := val_set (B := B64) (fix B64 N V) j (d * 2 ^ (32 * r) + V / B64 ^ j) (by rw [fix_length]; exact hj)
  rw [← nth_of_lt (by rw [fix_length]; exact hj), hold, hVB] at hs
  rw [val_fix_of_lt (show V < B64 ^ N by omega), Nat.mul_add] at hs
  rw [val_fix_of_lt hVN, hadd]
  omega

set_option maxRecDepth 100000 in
set_option maxHeartbeats 1600000 in
theorem rnum_any (A : Option Addr) (c x : Nat) (w : World) (hr : Rd w .u32 A (digs B32 x)) (hc : (digs B32 x).length ≤ c) (hx : x < B64 ^ 6) :
    Calls Try.prog 22 #[.slice A (digs B32 x).length c] w fun e w' => e = .returned (vE x) ∧ Below w.heap.size w w' := by
  have HV := hide (val_digs B32_ge x)
  have okL := hide (digs_ok B32_ge x)
  have hl12 : (digs B32 x).length ≤ 12 := digs_length_le B32_ge (by rw [show B32 ^ 12 = B64 ^ 6 from rfl]; exact hx)
  generalize digs B32 x = L at *
  generalize hp : L.length = p at *
  replace hp := hide hp
  go_enter Try.func22, Try.ntmps22
  go_wp2_with (first
    | ((with_reducible refine allocT 24 (o := ⟨some 2, _, _, _, _, _⟩) ?_ ?_ Try.zr24 ?_); rfl; rfl; intro w1 b1 hv1 hn1)
    | ((with_reducible refine allocT 24 (o := ⟨some 3, _, _, _, _, _⟩) ?_ ?_ Try.zr24 ?_); rfl; rfl; intro w2 b2 hv2 hn2))
  have Hv1 := hide (hv1.next hn2.bl)
  have hne : b1 ≠ b2 := Nat.ne_of_lt (Nat.lt_of_lt_of_le hv1.lt hn2.lo)
  have Hr := hide ((hr.below hn1.bl).below hn2.bl)
  have HB2 := hide (below_next hn1.bl hn2.bl)
  have hb1 := hide (show w.heap.size ≤ b1 ∧ w.heap.size ≤ b2 from ⟨hn1.lo, Nat.le_trans hn1.bl.size hn2.lo⟩)
  have Hv2 := hide hv2.to_blk
  have Hap := hide (show ∀ b off, A = some ⟨b, off, none⟩ → 0 < p → b ≠ b2 from fun b off e h => by
    obtain ⟨b', off', e', hrow⟩ := hr (by rw [hp.out]; exact h)
    rw [e] at e'
    injection e' with e'; injection e' with e'
    have := hrow.lt (by rw [hp.out]; exact h)
    have := hn1.bl.size
    have := hn2.lo
    omega)
  have hne := hide hne
  clear hv1 hv2 hn1 hn2 hr
  go_loopw [4] (fun k wr => ∃ i : Nat, i ≤ p ∧ k = .int .i64 i ∧ Only w2 wr b2 ∧ Blk wr b2 24 .u64 (fix B64 6 (val B32 (L.take i)))) (fun k _ => p - (intOf k).toNat)
  case atStart => exact ⟨0, Nat.zero_le _, rfl, Only.refl _ _, Hv2.out⟩
  case round =>
    obtain ⟨i, hi, rfl, hon, hblk⟩ := hrel
    by_cases hlt : i < p
    · obtain ⟨b, off, rfl, hrow⟩ := Hr.out (by rw [hp.out]; omega)
      have hcell := hon.row hrow (Hap.out b off rfl (by omega)) i (by rw [hp.out]; exact hlt)
      have hd : nth L i < B32 := Ok.getD B32_pos okL.out _
      have hst := lay64_step (N := 6) (i := i) (by omega) (vt_lt okL.out B32_pos i) hd
      rw [← vt_succ'] at hst
      have hcell2 := hblk.cell (i := i / 2) (by rw [fix_length]; omega)
      have hfr := hblk.frozen (i / 2)
      have hy : nth (fix B64 6 (val B32 (L.take i))) (i / 2) < B64 := Ok.getD B64_pos (fix_ok B64_pos _ _) _
      have Hst := hide hst
      have Hblk := hide hblk
      have Hon := hide hon
      clear hrow hst hblk hon
      generalize fix B64 6 (val B32 (L.take i)) = F at *
      generalize nth L i = d at *
      generalize nth F (i / 2) = y at *
      have i0 : (0 : Int) ≤ (i : Int) / 2 := by omega
      have i1 : (i : Int) / 2 < 6 := by omega
      have i2 : ((i : Int) / 2).toNat = i / 2 := by omega
      have i3 : (i : Int) < 12 := by omega
      have iw := wrap_in ((i : Int) / 2) (by omega) (by omega)
      have iw2 := wrap_in ((i : Int) % 2) (by omega) (by omega)
      have iw3 := wrap_in (32 * ((i : Int) % 2)) (by omega) (by omega)
      have iw4 := wrap_in ((i : Int) + 1) (by omega) (by omega)
      have ex : IntKind.u64.wrap (d : Int) = (d : Int) := wrap_u _ (by omega) (by rw [B32_eq] at hd; omega)
      go_wp2_with fail
      go_region
      go_wp2_with fail
      have hE := or_shl hy Hst.out.2
      have hblk2 := Blk.drew (Hblk.out.set_ (i / 2) hE)
      rw [Hst.out.1] at hblk2
      exact ⟨⟨i + 1, by omega, by simp, (Hon.out.set_ _ _).drew, hblk2⟩, by simp [intOf]; omega⟩
    · obtain rfl : i = p := by omega
      rw [vt_full L (by rw [hp.out]; exact Nat.le_refl _), HV.out] at hblk
      have hvb : VB wr b2 24 (ve x) := VB.of_blk hblk
      have Hvb := hide hvb
      have Hv1' := hide (hon.vb Hv1.out hne.out)
      have Hon := hide hon
      clear hblk hvb hon Hv1
      have hi12 : ¬ (i : Int) < (i : Int) := by omega
      by_cases h12 : i < 12
      · have h12' : (i : Int) < 12 := by omega
        go_wp2_with (first
          | ((with_reducible refine loadT 24 (v := x) (o := ⟨some 32, _, _, _, _, _⟩) ?_ (.tmp 3) ?_ ?_ Hvb.out Try.underlying24 ?_ Try.sz24 ?_); rfl; rfl; rfl; rfl)
          | ((with_reducible refine storeT 24 (v' := x) (o := ⟨none, _, _, _, _, _⟩) ?_ (.tmp 2) (.tmp 32) ?_ ?_ ?_ Hv1'.out Try.sz24 ?_); rfl; rfl; rfl; rfl; intro w6 hv6 ho6))
        exact retT 24 rfl rfl hv6 Try.underlying24 rfl Try.sz24 rfl ⟨rfl, Only.below (Only.below HB2.out Hon.out hb1.out.2) ho6.out hb1.out.1⟩
      · have h12' : ¬ (i : Int) < 12 := by omega
        go_wp2_with (first
          | ((with_reducible refine loadT 24 (v := x) (o := ⟨some 32, _, _, _, _, _⟩) ?_ (.tmp 3) ?_ ?_ Hvb.out Try.underlying24 ?_ Try.sz24 ?_); rfl; rfl; rfl; rfl)
          | ((with_reducible refine storeT 24 (v' := x) (o := ⟨none, _, _, _, _, _⟩) ?_ (.tmp 2) (.tmp 32) ?_ ?_ ?_ Hv1'.out Try.sz24 ?_); rfl; rfl; rfl; rfl; intro w6 hv6 ho6))
        exact retT 24 rfl rfl hv6 Try.underlying24 rfl Try.sz24 rfl ⟨rfl, Only.below (Only.below HB2.out Hon.out hb1.out.2) ho6.out hb1.out.1⟩
end Go.Proofs.Ytincemkjdgbnnaa
