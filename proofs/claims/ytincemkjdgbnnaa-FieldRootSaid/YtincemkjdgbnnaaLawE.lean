/- Walks: FieldFermat. -/
import Derived.Test.YtincemkjdgbnnaaLawD
import Derived.Test.YtincemkjdgbnnaaNatP
import Derived.Test.YtincemkjdgbnnaaPlP
set_option linter.unusedVariables false
set_option linter.unusedSimpArgs false
namespace Go.Proofs.Ytincemkjdgbnnaa
open Go.RowKit Lm

theorem b32len {n k : Nat} (h : n < B32 ^ k) : (digs B32 n).length ≤ k := digs_length_le B32_ge h
theorem be_ok_lt {l : List Nat} (h : Ok 256 l) {k : Nat} (hl : l.length ≤ k) : be l < 256 ^ k := by
  have h1 := val_lt (B := 256) (l := l.reverse) (fun y hy => h y (List.mem_reverse.1 hy))
  rw [List.length_reverse] at h1
  exact Nat.lt_of_lt_of_le h1 (Nat.pow_le_pow_right (by decide) hl)

set_option maxRecDepth 100000 in
set_option maxHeartbeats 3200000 in
theorem fermat_c (k : Int) (x y z : Nat) (E : Option Addr) (ce : Nat) (l : List Nat) (w : World) (hk : isKind k) (ha : x < B64 ^ 6) (hr : Rd w .u8 E l) (hle : l.length ≤ ce) (hok : Ok 256 l) :
    Calls Try.prog 3 #[.agg (askCells k x y z (.slice E l.length ce)).toArray] w fun e w' => e = .returned (.bool true) ∧ Below w.heap.size w w' := by
  have Hboth := hide (fun W => both_c k W hk)
  have Hp := hide (kprime hk)
  have Ha := hide ha
  have HE := hide hr
  have Hle := hide hle
  have hP32 : kP k < B32 ^ 12 := by have := (kok hk).lt; have h6 := (kok hk).n6; exact Nat.lt_of_lt_of_le this (by rw [show B32 ^ 12 = B64 ^ 6 from rfl]; exact Nat.pow_le_pow_right B64_pos h6)
  have HPl := hide (b32len hP32)
  have HPb := hide (byb_length_le (n := kP k) (k := 48) (Nat.lt_of_lt_of_le hP32 (by decide)))
  clear hP32
  generalize kP k = P at *
  generalize kn k = n at *
  generalize ksz k = sz at *
  clear ha hk hr hle
  obtain ⟨le, hle⟩ : ∃ le, le = l.take 12 := ⟨_, rfl⟩
  have hle12 : le.length ≤ 12 := by rw [hle, List.length_take]; omega
  have okE : Ok 256 le := by rw [hle]; exact hok.take 12
  obtain ⟨ev, hev⟩ : ∃ ev, ev = be le := ⟨_, rfl⟩
  have hevl : ev < 256 ^ 12 := by rw [hev]; exact be_ok_lt okE hle12
  have Hev := hide (b32len (n := ev) (k := 3) (Nat.lt_of_lt_of_le hevl (by decide)))
  obtain ⟨gv, hgv⟩ : ∃ g, g = be [3, 7] := ⟨_, rfl⟩
  have hg775 : gv = 775 := hgv
  have HSlt := hide (show ev + gv < B32 ^ 4 by rw [hg775]; exact Nat.lt_trans (Nat.add_lt_add_right hevl 775) (by decide +kernel))
  have HS := hide (byb_length_le (n := ev + gv) (k := 13) (by rw [hg775]; exact Nat.lt_trans (Nat.add_lt_add_right hevl 775) (by decide +kernel)))
  have HGl := hide (show (digs B32 gv).length < lim by rw [hg775]; decide +kernel)
  replace hgv := hide hgv
  clear hg775
  have Htwin := hide (fun W h => twin_any E ce 12 l W h Hle.out (by decide))
  rw [← hle] at Htwin
  have Hle12 := hide hle12
  have OkE := hide okE
  replace hev := hide hev
  replace hle := hide hle
  clear hle12 okE hevl hok Hle
  go_enter Try.func3, Try.ntmps3
  go_upto_region 4 with (first
    | ((with_reducible refine wpList_box (o := ⟨some 1, _, _, _, _, _⟩) ?_ 27 (.tmp 0) ?_ (askCells k x y z (.slice E l.length ce)) ?_ ?_); rfl; rfl; rfl; intro w1 b1 h1 hv1 h3 h4; have hn1 : New w w1 b1 := ⟨by rw [h1]; exact Nat.le_refl _, by rw [h4]; omega, h3⟩; have r0 : w1.cell? ⟨b1, 0, none⟩ = some (.int .i64 k) := hv1.cell 0; clear h1 h3 h4; replace hv1 := hide hv1; replace hn1 := hide hn1)
    | (go_at_call 12; refine (Hboth.out w1).mono ?_; rintro e w2 ⟨bf, bm, A, cp, rfl, hF, hcp, hr, hB2⟩; replace hF := hide hF; replace hr := hide hr; replace hcp := hide hcp; replace hB2 := hide hB2)
    | ((with_reducible refine wpList_alloc (o := ⟨some 4, _, _, _, _, _⟩) ?_ 32 ?_ [.slice none 0 0, .int .i64 0] Try.zrF ?_); rfl; rfl; intro w4 b4 h1 hv4 h3 h4; have hn4 : New w2 w4 b4 := ⟨by rw [h1]; exact Nat.le_refl _, by rw [h4]; omega, h3⟩; clear h1 h3 h4; replace hn4 := hide hn4)
    | ((with_reducible refine wpList_storeW (o := ⟨none, _, _, _, _, _⟩) ?_ 32 (.tmp 4) (.tmp 16) ?_ ?_ hv4 (vF A P cp sz) ?_ (szVF _ _ _ _) ?_ ?_ ?_); rfl; rfl; rfl; rfl; rfl; rfl; intro w5 hv5 ho5; have r4 : w5.cell? ⟨b4, 0, none⟩ = some (.slice A (digs B32 P).length cp) := hv5.cell 0; replace ho5 := hide ho5; replace hv5 := hide hv5))
  clear r0
  have hb14 : b1 < b4 := Nat.lt_of_lt_of_le hn1.out.hi (Nat.le_trans hB2.out.size hn4.out.lo)
  have hB4 := below_next (below_next hn1.out.bl hB2.out) hn4.out.bl
  have HB5 := hide (Only.below hB4 ho5.out (Nat.le_trans hn1.out.lo (Nat.le_of_lt hb14)))
  have HV5 := hide (ho5.out.vb ((hv1.out.next hB2.out).next hn4.out.bl) (Nat.ne_of_lt hb14))
  have hF4 := hF.out.next hn4.out.bl
  have HF5 := hide (hF4.only ho5.out (Nat.ne_of_lt (Nat.lt_of_lt_of_le hF.out.vb.lt hn4.out.lo)) (Nat.ne_of_lt (Nat.lt_of_lt_of_le hF.out.fb.vb.lt hn4.out.lo)))
  have HR5 := hide ((((hr.out.toB).next hn4.out.bl).only ho5.out hn4.out.lo).rd)
  have HE5 := hide (HE.out.below HB5.out)
  have Hby := hide (nbytes_any A cp P w5 HR5.out hcp.out (Nat.le_trans HPl.out (by decide)))
  clear hv4 hb14 hF4 hn1 hn4 hB2 hF hv1 hr hcp hv5 ho5 hB4 HE Hboth
  generalize digs B32 P = DP at *
  go_upto_region 7 with (first
    | (go_at_call 13; refine Hby.out.mono ?_; rintro e w6 ⟨Ap, cb, rfl, hcb, hrb, hb6⟩; have r19 : w6.cell? ⟨b1, 19, none⟩ = some (.slice E l.length ce) := (HV5.out.next hb6).cell 19; replace hcb := hide hcb; replace hrb := hide hrb; replace hb6 := hide hb6)
    | (go_at_call 14; refine (Htwin.out w6 (HE5.out.below hb6.out)).mono ?_; rintro e w7 ⟨Ae, cet, rfl, hce, hre, hb7⟩; replace hce := hide hce; replace hre := hide hre; replace hb7 := hide hb7))
  obtain ⟨bg, hbg⟩ : ∃ b, b = w7.heap.size := ⟨_, rfl⟩
  obtain ⟨w8, hw8⟩ : ∃ W, W = w7.alloc (.cells #[.int .u8 3, .int .u8 7] 5) := ⟨_, rfl⟩
  have hb8 : Below w7.heap.size w7 w8 := by rw [hw8]; exact below_alloc (Below.refl _ _) _
  have hG8 : Rd w8 .u8 (some ⟨bg, 0, none⟩) [3, 7] := by rw [hw8, hbg]; exact fun _ => ⟨_, _, rfl, (Blk.new w7 .u8 5 [3, 7]).row0⟩
  rw [← hw8, ← hbg]
  clear hw8 hbg r4 r19 Hby Htwin
  have HB8 := hide (below_next (below_next (below_next HB5.out hb6.out) hb7.out) hb8)
  have HV8 := hide (((HV5.out.next hb6.out).next hb7.out).next hb8)
  have HF8 := hide (((HF5.out.next hb6.out).next hb7.out).next hb8)
  have HP8 := hide ((hrb.out.below hb7.out).below hb8)
  have HE8 := hide (hre.out.below hb8)
  replace hG8 := hide hG8
  have Hfe := hide (nfrom_any Ae cet le w8 HE8.out hce.out (Nat.le_trans Hle12.out (by decide)) OkE.out)
  rw [← hev.out] at Hfe
  have Hfg : Hid (∀ W, Rd W .u8 (some ⟨bg, 0, none⟩) [3, 7] → Calls Try.prog 16 #[.slice (some ⟨bg, 0, none⟩) 2 2] W (RetSl W .u32 (digs B32 gv))) := hide fun W h => by
    rw [hgv.out]
    exact nfrom_any (some ⟨bg, 0, none⟩) 2 [3, 7] W h (by decide) (by decide) (Ok.cons (by decide) (Ok.cons (by decide) Ok.nil))
  have Hadd := hide (fun A A' c c' W h1 h2 h3 h4 => nadd_any A A' c c' ev gv W h1 h2 (Nat.lt_of_le_of_lt Hev.out (by decide)) h3 h4 HGl.out)
  have Hbs := hide (fun A c W h1 h2 => nbytes_any A c (ev + gv) W h1 h2 (Nat.le_trans (b32len (n := ev + gv) (k := 4) HSlt.out) (by decide)))
  clear hb8 hb6 hb7 hrb hre HV5 HF5 HR5 HE5 HB5
  generalize hDe : digs B32 ev = De at *
  generalize hDs : digs B32 (ev + gv) = Ds at *
  generalize hDg : digs B32 gv = Dg at *
  replace hDe := hide hDe
  replace hDs := hide hDs
  replace hDg := hide hDg
  go_upto_region 8 with (first
    | (go_at_call 16; refine (Hfg.out w9 (hG8.out.below hb9.out)).mono ?_; rintro e w10 ⟨A10, c10, rfl, hc10, hr10, hb10⟩; replace hc10 := hide hc10; replace hr10 := hide hr10; replace hb10 := hide hb10)
    | (go_at_call 16; refine Hfe.out.mono ?_; rintro e w9 ⟨A9, c9, rfl, hc9, hr9, hb9⟩; replace hc9 := hide hc9; replace hr9 := hide hr9; replace hb9 := hide hb9)
    | (go_at_call 15; refine (Hadd.out A9 A10 c9 c10 w10 (hr9.out.below hb10.out) hc9.out hr10.out hc10.out).mono ?_; rintro e w11 ⟨A11, c11, rfl, hc11, hr11, hb11⟩; replace hc11 := hide hc11; replace hr11 := hide hr11; replace hb11 := hide hb11)
    | (go_at_call 13; refine (Hbs.out A11 c11 w11 hr11.out hc11.out).mono ?_; rintro e w12 ⟨As, cs, rfl, hcs, hrs, hb12⟩; replace hcs := hide hcs; replace hrs := hide hrs; replace hb12 := hide hb12))
  have HB12 := hide (below_next (below_next (below_next (below_next HB8.out hb9.out) hb10.out) hb11.out) hb12.out)
  have HV12 := hide ((((HV8.out.next hb9.out).next hb10.out).next hb11.out).next hb12.out)
  have HF12 := hide ((((HF8.out.next hb9.out).next hb10.out).next hb11.out).next hb12.out)
  have HP12 := hide ((((HP8.out.below hb9.out).below hb10.out).below hb11.out).below hb12.out)
  have HE12 := hide ((((HE8.out.below hb9.out).below hb10.out).below hb11.out).below hb12.out)
  have HG12 := hide ((((hG8.out.below hb9.out).below hb10.out).below hb11.out).below hb12.out)
  clear HB8 HV8 HF8 HP8 HE8 hG8 hb9 hb10 hb11 hb12 Hfe Hfg Hadd Hbs
  have mlt := hide (show ∀ x, x % P < B64 ^ 6 from fun x => Nat.lt_of_lt_of_le (Nat.mod_lt _ (Nat.lt_trans (by decide) Hp.out.1)) (Nat.le_of_lt HF12.out.lt6))
  have HxP : Hid (∀ W, FQ W bf bm P n sz → Rd W .u8 Ap (byb P) → Calls Try.prog 17 #[.pointer (some ⟨bf, 0, none⟩), vE x, .slice Ap (byb P).length cb] W fun e w' => e = .returned (vE (x ^ P % P)) ∧ Below W.heap.size W w') := hide fun W h1 h2 => by
    have := fexp_c bf bm P n sz x Ap cb (byb P) W h1 Ha.out h2 hcb.out (Nat.le_trans HPb.out (by decide)) (byb_ok P)
    rwa [be_byb] at this
  have HxE : Hid (∀ W, FQ W bf bm P n sz → Rd W .u8 Ae le → Calls Try.prog 17 #[.pointer (some ⟨bf, 0, none⟩), vE x, .slice Ae le.length cet] W fun e w' => e = .returned (vE (x ^ ev % P)) ∧ Below W.heap.size W w') := hide fun W h1 h2 => by
    have := fexp_c bf bm P n sz x Ae cet le W h1 Ha.out h2 hce.out (Nat.le_trans Hle12.out (by decide)) OkE.out
    rwa [← hev.out] at this
  have HxG : Hid (∀ W, FQ W bf bm P n sz → Rd W .u8 (some ⟨bg, 0, none⟩) [3, 7] → Calls Try.prog 17 #[.pointer (some ⟨bf, 0, none⟩), vE x, .slice (some ⟨bg, 0, none⟩) 2 2] W fun e w' => e = .returned (vE (x ^ gv % P)) ∧ Below W.heap.size W w') := hide fun W h1 h2 => by
    rw [hgv.out]
    exact fexp_c bf bm P n sz x (some ⟨bg, 0, none⟩) 2 [3, 7] W h1 Ha.out h2 (by decide) (by decide) (Ok.cons (by decide) (Ok.cons (by decide) Ok.nil))
  have HxS : Hid (∀ W, FQ W bf bm P n sz → Rd W .u8 As (byb (ev + gv)) → Calls Try.prog 17 #[.pointer (some ⟨bf, 0, none⟩), vE x, .slice As (byb (ev + gv)).length cs] W fun e w' => e = .returned (vE (x ^ (ev + gv) % P)) ∧ Below W.heap.size W w') := hide fun W h1 h2 => by
    have := fexp_c bf bm P n sz x As cs (byb (ev + gv)) W h1 Ha.out h2 hcs.out (Nat.le_trans HS.out (by decide)) (byb_ok _)
    rwa [be_byb] at this
  have HxN : Hid (∀ W, FQ W bf bm P n sz → Calls Try.prog 17 #[.pointer (some ⟨bf, 0, none⟩), vE x, .slice none 0 0] W fun e w' => e = .returned (vE (x ^ 0 % P)) ∧ Below W.heap.size W w') := hide fun W h1 => by
    have := fexp_c bf bm P n sz x none 0 [] W h1 Ha.out (Rd.nil _ _ _) (by decide) (by decide) Ok.nil
    rwa [show be [] = 0 from rfl] at this
  generalize byb P = bP at *
  generalize byb (ev + gv) = bS at *
  refine region_do 38 73 [fun v _ => v = .pointer (some ⟨bf, 0, none⟩), fun v _ => v = .pointer (some ⟨b1, 1, none⟩), fun v _ => v = vE (x), fun v _ => v = .slice Ap bP.length cb, fun v _ => v = vE (x ^ P % P), fun v _ => v = .pointer (some ⟨bf, 0, none⟩), fun v _ => v = .pointer (some ⟨b1, 1, none⟩), fun v _ => v = vE (x), fun v _ => v = vE ((x) % P), fun v _ => v = .bool true, fun v _ => v = .bool true, fun v _ => v = .pointer (some ⟨bf, 0, none⟩), fun v _ => v = .pointer (some ⟨bf, 0, none⟩), fun v _ => v = .pointer (some ⟨b1, 1, none⟩), fun v _ => v = vE (x), fun v _ => v = .slice Ae le.length cet, fun v _ => v = vE (x ^ ev % P), fun v _ => v = .pointer (some ⟨bf, 0, none⟩), fun v _ => v = .pointer (some ⟨b1, 1, none⟩), fun v _ => v = vE (x), fun v _ => v = .slice (some ⟨bg, 0, none⟩) 2 2, fun v _ => v = vE (x ^ gv % P), fun v _ => v = vE ((x ^ ev % P) * (x ^ gv % P) % P), fun v _ => v = .pointer (some ⟨bf, 0, none⟩), fun v _ => v = .pointer (some ⟨b1, 1, none⟩), fun v _ => v = vE (x), fun v _ => v = .slice As bS.length cs, fun v _ => v = vE (x ^ (ev + gv) % P), fun v _ => v = .bool true, fun v _ => v = .bool true, fun v _ => v = .bool true, fun v _ => v = .pointer (some ⟨bf, 0, none⟩), fun v _ => v = .pointer (some ⟨b1, 1, none⟩), fun v _ => v = vE (x), fun v _ => v = vE (x ^ 0 % P), fun v _ => v = vE (1), fun v _ => v = .bool true, fun v _ => v = .bool true]
    [(3, .pointer (some ⟨bf, 0, none⟩)), (1, .pointer (some ⟨b1, 0, none⟩)), (7, .slice Ap bP.length cb), (8, .slice Ae le.length cet), (9, .slice (some ⟨bg, 0, none⟩) 2 2), (10, .slice As bS.length cs)] (fun w' => FQ w' bf bm P n sz ∧ VB w' b1 27 (askCells k x y z (.slice E l.length ce)) ∧ Rd w' .u8 Ap bP ∧ Rd w' .u8 Ae le ∧ Rd w' .u8 (some ⟨bg, 0, none⟩) [3, 7] ∧ Rd w' .u8 As bS) (fun w' => True) 999 none (by kernel_rfl) (by kernel_rfl) rfl rfl
    (.cons (Fact.eq _) rfl (.cons (Fact.eq _) rfl (.cons (Fact.eq _) rfl (.cons (Fact.eq _) rfl (.cons (Fact.eq _) rfl (.cons (Fact.eq _) rfl (.cons (Fact.eq _) rfl (.cons (Fact.eq _) rfl (.cons (Fact.eq _) rfl (.cons (Fact.eq _) rfl (.cons (Fact.eq _) rfl (.cons (Fact.eq _) rfl (.cons (Fact.eq _) rfl (.cons (Fact.eq _) rfl (.cons (Fact.eq _) rfl (.cons (Fact.eq _) rfl (.cons (Fact.eq _) rfl (.cons (Fact.eq _) rfl (.cons (Fact.eq _) rfl (.cons (Fact.eq _) rfl (.cons (Fact.eq _) rfl (.cons (Fact.eq _) rfl (.cons (Fact.eq _) rfl (.cons (Fact.eq _) rfl (.cons (Fact.eq _) rfl (.cons (Fact.eq _) rfl (.cons (Fact.eq _) rfl (.cons (Fact.eq _) rfl (.cons (Fact.eq _) rfl (.cons (Fact.eq _) rfl (.cons (Fact.eq _) rfl (.cons (Fact.eq _) rfl (.cons (Fact.eq _) rfl (.cons (Fact.eq _) rfl (.cons (Fact.eq _) rfl (.cons (Fact.eq _) rfl (.cons (Fact.eq _) rfl (.cons (Fact.eq _) rfl (.nil _))))))))))))))))))))))))))))))))))))))) (fun w' h => ⟨HF12.out.next h, HV12.out.next h, HP12.out.below h, HE12.out.below h, HG12.out.below h, hrs.out.below h⟩) (fun w' h => trivial) (by kernel_rfl) ⟨rfl, rfl, rfl, rfl, rfl, rfl, trivial⟩ (.cons ?_ (.cons ?_ (.cons ?_ (.cons ?_ (.cons ?_ (.cons ?_ (.cons ?_ (.cons ?_ (.cons ?_ (.cons ?_ (.cons ?_ (.cons ?_ (.cons ?_ (.cons ?_ (.cons ?_ (.cons ?_ (.cons ?_ (.cons ?_ (.cons ?_ (.cons ?_ (.cons ?_ (.cons ?_ (.cons ?_ (.cons ?_ (.cons ?_ (.cons ?_ (.cons ?_ (.cons ?_ (.cons ?_ (.cons ?_ (.cons ?_ (.cons ?_ (.cons ?_ (.cons ?_ (.cons ?_ (.cons ?_ (.cons ?_ (.cons ?_ .nil)))))))))))))))))))))))))))))))))))))) ?_
  · refine Obl.plain rfl _ rfl rfl [] (by kernel_rfl) fun a W hF hC hD K hK => ?_
    have e3 : a.tmps.getD 3 undef = .pointer (some ⟨bf, 0, none⟩) := hF.1
    clear hF hD hC
    go_simp
    exact hK _ _ rfl (Below.refl _ _)
  · refine Obl.plain rfl _ rfl rfl [] (by kernel_rfl) fun a W hF hC hD K hK => ?_
    have e1 : a.tmps.getD 1 undef = .pointer (some ⟨b1, 0, none⟩) := hF.2.1
    clear hF hD hC
    go_simp
    exact hK _ _ rfl (Below.refl _ _)
  · refine Obl.plain rfl _ rfl rfl [1] (by kernel_rfl) fun a W hF hC hD K hK => ?_
    obtain ⟨c1, c2, c3, c4, c5, c6⟩ := hC
    have e36 : a.tmps.getD 36 undef = .pointer (some ⟨b1, 1, none⟩) := hD.1
    clear hF hD
    exact wpAsk (.tmp 36) rfl c2 1 e36 rfl (hK _ _ rfl (Below.refl _ _))
  · refine Obl.plain rfl _ rfl rfl [] (by kernel_rfl) fun a W hF hC hD K hK => ?_
    have e7 : a.tmps.getD 7 undef = .slice Ap bP.length cb := hF.2.2.1
    clear hF hD hC
    go_simp
    exact hK _ _ rfl (Below.refl _ _)
  · refine Obl.plain rfl _ rfl rfl [0, 2, 3] (by kernel_rfl) fun a W hF hC hD K hK => ?_
    obtain ⟨c1, c2, c3, c4, c5, c6⟩ := hC
    have e35 : a.tmps.getD 35 undef = .pointer (some ⟨bf, 0, none⟩) := hD.1
    have e37 : a.tmps.getD 37 undef = vE (x) := hD.2.1
    have e38 : a.tmps.getD 38 undef = .slice Ap bP.length cb := hD.2.2.1
    clear hF hD
    exact wp_callV #[a.tmps.getD 35 undef, a.tmps.getD 37 undef, a.tmps.getD 38 undef] #[.pointer (some ⟨bf, 0, none⟩), vE (x), .slice Ap bP.length cb] (vE (x ^ P % P)) (by kernel_rfl) (by rw [e35, e37, e38]) (HxP.out W c1 c3) fun w' hb => hK _ _ rfl hb
  · refine Obl.plain rfl _ rfl rfl [] (by kernel_rfl) fun a W hF hC hD K hK => ?_
    have e3 : a.tmps.getD 3 undef = .pointer (some ⟨bf, 0, none⟩) := hF.1
    clear hF hD hC
    go_simp
    exact hK _ _ rfl (Below.refl _ _)
  · refine Obl.plain rfl _ rfl rfl [] (by kernel_rfl) fun a W hF hC hD K hK => ?_
    have e1 : a.tmps.getD 1 undef = .pointer (some ⟨b1, 0, none⟩) := hF.2.1
    clear hF hD hC
    go_simp
    exact hK _ _ rfl (Below.refl _ _)
  · refine Obl.plain rfl _ rfl rfl [6] (by kernel_rfl) fun a W hF hC hD K hK => ?_
    obtain ⟨c1, c2, c3, c4, c5, c6⟩ := hC
    have e41 : a.tmps.getD 41 undef = .pointer (some ⟨b1, 1, none⟩) := hD.1
    clear hF hD
    exact wpAsk (.tmp 41) rfl c2 1 e41 rfl (hK _ _ rfl (Below.refl _ _))
  · refine Obl.plain rfl _ rfl rfl [5, 7, 4] (by kernel_rfl) fun a W hF hC hD K hK => ?_
    obtain ⟨c1, c2, c3, c4, c5, c6⟩ := hC
    have e40 : a.tmps.getD 40 undef = .pointer (some ⟨bf, 0, none⟩) := hD.1
    have e42 : a.tmps.getD 42 undef = vE (x) := hD.2.1
    clear hF hD
    exact wp_callV #[a.tmps.getD 40 undef, a.tmps.getD 42 undef] #[.pointer (some ⟨bf, 0, none⟩), vE (x)] (vE ((x) % P)) (by kernel_rfl) (by rw [e40, e42]) (freduce_c bf bm P n sz (x) W c1 Ha.out) fun w' hb => hK _ _ rfl hb
  · refine Obl.plain rfl _ rfl rfl [4, 8] (by kernel_rfl) fun a W hF hC hD K hK => ?_
    have e39 : a.tmps.getD 39 undef = vE (x ^ P % P) := hD.1
    have e43 : a.tmps.getD 43 undef = vE ((x) % P) := hD.2.1
    clear hF hD hC
    have f0 := eqv_of (pl_fermat Hp.out x)
    exact wp_eqlN (.tmp 39) (.tmp 43) _ rfl e39 e43 (hK _ _ (congrArg Value.bool f0) (Below.refl _ _))
  · refine Obl.plain rfl _ rfl rfl [9, 8] (by kernel_rfl) fun a W hF hC hD K hK => ?_
    have e44 : a.tmps.getD 44 undef = .bool true := hD.1
    clear hF hD hC
    go_simp
    exact hK _ _ rfl (Below.refl _ _)
  · refine Obl.guarded rfl _ rfl 10 true 45 rfl rfl [10] (by kernel_rfl) (fun a W hF hC hD => hD.1) fun a W hF hC hD K hK => ?_
    have e3 : a.tmps.getD 3 undef = .pointer (some ⟨bf, 0, none⟩) := hF.1
    clear hF hD hC
    go_simp
    exact hK _ _ rfl (Below.refl _ _)
  · refine Obl.guarded rfl _ rfl 10 true 45 rfl rfl [10] (by kernel_rfl) (fun a W hF hC hD => hD.1) fun a W hF hC hD K hK => ?_
    have e3 : a.tmps.getD 3 undef = .pointer (some ⟨bf, 0, none⟩) := hF.1
    clear hF hD hC
    go_simp
    exact hK _ _ rfl (Below.refl _ _)
  · refine Obl.guarded rfl _ rfl 10 true 45 rfl rfl [10] (by kernel_rfl) (fun a W hF hC hD => hD.1) fun a W hF hC hD K hK => ?_
    have e1 : a.tmps.getD 1 undef = .pointer (some ⟨b1, 0, none⟩) := hF.2.1
    clear hF hD hC
    go_simp
    exact hK _ _ rfl (Below.refl _ _)
  · refine Obl.guarded rfl _ rfl 10 true 45 rfl rfl [13, 10] (by kernel_rfl) (fun a W hF hC hD => hD.2.1) fun a W hF hC hD K hK => ?_
    obtain ⟨c1, c2, c3, c4, c5, c6⟩ := hC
    have e48 : a.tmps.getD 48 undef = .pointer (some ⟨b1, 1, none⟩) := hD.1
    clear hF hD
    exact wpAsk (.tmp 48) rfl c2 1 e48 rfl (hK _ _ rfl (Below.refl _ _))
  · refine Obl.guarded rfl _ rfl 10 true 45 rfl rfl [10] (by kernel_rfl) (fun a W hF hC hD => hD.1) fun a W hF hC hD K hK => ?_
    have e8 : a.tmps.getD 8 undef = .slice Ae le.length cet := hF.2.2.2.1
    clear hF hD hC
    go_simp
    exact hK _ _ rfl (Below.refl _ _)
  · refine Obl.guarded rfl _ rfl 10 true 45 rfl rfl [12, 14, 15, 10, 10] (by kernel_rfl) (fun a W hF hC hD => hD.2.2.2.1) fun a W hF hC hD K hK => ?_
    obtain ⟨c1, c2, c3, c4, c5, c6⟩ := hC
    have e47 : a.tmps.getD 47 undef = .pointer (some ⟨bf, 0, none⟩) := hD.1
    have e49 : a.tmps.getD 49 undef = vE (x) := hD.2.1
    have e50 : a.tmps.getD 50 undef = .slice Ae le.length cet := hD.2.2.1
    clear hF hD
    exact wp_callV #[a.tmps.getD 47 undef, a.tmps.getD 49 undef, a.tmps.getD 50 undef] #[.pointer (some ⟨bf, 0, none⟩), vE (x), .slice Ae le.length cet] (vE (x ^ ev % P)) (by kernel_rfl) (by rw [e47, e49, e50]) (HxE.out W c1 c4) fun w' hb => hK _ _ rfl hb
  · refine Obl.guarded rfl _ rfl 10 true 45 rfl rfl [10] (by kernel_rfl) (fun a W hF hC hD => hD.1) fun a W hF hC hD K hK => ?_
    have e3 : a.tmps.getD 3 undef = .pointer (some ⟨bf, 0, none⟩) := hF.1
    clear hF hD hC
    go_simp
    exact hK _ _ rfl (Below.refl _ _)
  · refine Obl.guarded rfl _ rfl 10 true 45 rfl rfl [10] (by kernel_rfl) (fun a W hF hC hD => hD.1) fun a W hF hC hD K hK => ?_
    have e1 : a.tmps.getD 1 undef = .pointer (some ⟨b1, 0, none⟩) := hF.2.1
    clear hF hD hC
    go_simp
    exact hK _ _ rfl (Below.refl _ _)
  · refine Obl.guarded rfl _ rfl 10 true 45 rfl rfl [18, 10] (by kernel_rfl) (fun a W hF hC hD => hD.2.1) fun a W hF hC hD K hK => ?_
    obtain ⟨c1, c2, c3, c4, c5, c6⟩ := hC
    have e53 : a.tmps.getD 53 undef = .pointer (some ⟨b1, 1, none⟩) := hD.1
    clear hF hD
    exact wpAsk (.tmp 53) rfl c2 1 e53 rfl (hK _ _ rfl (Below.refl _ _))
  · refine Obl.guarded rfl _ rfl 10 true 45 rfl rfl [10] (by kernel_rfl) (fun a W hF hC hD => hD.1) fun a W hF hC hD K hK => ?_
    have e9 : a.tmps.getD 9 undef = .slice (some ⟨bg, 0, none⟩) 2 2 := hF.2.2.2.2.1
    clear hF hD hC
    go_simp
    exact hK _ _ rfl (Below.refl _ _)
  · refine Obl.guarded rfl _ rfl 10 true 45 rfl rfl [17, 19, 20, 16, 10] (by kernel_rfl) (fun a W hF hC hD => hD.2.2.2.2.1) fun a W hF hC hD K hK => ?_
    obtain ⟨c1, c2, c3, c4, c5, c6⟩ := hC
    have e52 : a.tmps.getD 52 undef = .pointer (some ⟨bf, 0, none⟩) := hD.1
    have e54 : a.tmps.getD 54 undef = vE (x) := hD.2.1
    have e55 : a.tmps.getD 55 undef = .slice (some ⟨bg, 0, none⟩) 2 2 := hD.2.2.1
    clear hF hD
    exact wp_callV #[a.tmps.getD 52 undef, a.tmps.getD 54 undef, a.tmps.getD 55 undef] #[.pointer (some ⟨bf, 0, none⟩), vE (x), .slice (some ⟨bg, 0, none⟩) 2 2] (vE (x ^ gv % P)) (by kernel_rfl) (by rw [e52, e54, e55]) (HxG.out W c1 c5) fun w' hb => hK _ _ rfl hb
  · refine Obl.guarded rfl _ rfl 10 true 45 rfl rfl [11, 16, 21, 21, 10] (by kernel_rfl) (fun a W hF hC hD => hD.2.2.2.2.1) fun a W hF hC hD K hK => ?_
    obtain ⟨c1, c2, c3, c4, c5, c6⟩ := hC
    have e46 : a.tmps.getD 46 undef = .pointer (some ⟨bf, 0, none⟩) := hD.1
    have e51 : a.tmps.getD 51 undef = vE (x ^ ev % P) := hD.2.1
    have e56 : a.tmps.getD 56 undef = vE (x ^ gv % P) := hD.2.2.1
    clear hF hD
    exact wp_callV #[a.tmps.getD 46 undef, a.tmps.getD 51 undef, a.tmps.getD 56 undef] #[.pointer (some ⟨bf, 0, none⟩), vE (x ^ ev % P), vE (x ^ gv % P)] (vE ((x ^ ev % P) * (x ^ gv % P) % P)) (by kernel_rfl) (by rw [e46, e51, e56]) (fmul_c bf bm P n sz (x ^ ev % P) (x ^ gv % P) W c1 (mlt.out _) (mlt.out _)) fun w' hb => hK _ _ rfl hb
  · refine Obl.guarded rfl _ rfl 10 true 45 rfl rfl [10] (by kernel_rfl) (fun a W hF hC hD => hD.1) fun a W hF hC hD K hK => ?_
    have e3 : a.tmps.getD 3 undef = .pointer (some ⟨bf, 0, none⟩) := hF.1
    clear hF hD hC
    go_simp
    exact hK _ _ rfl (Below.refl _ _)
  · refine Obl.guarded rfl _ rfl 10 true 45 rfl rfl [10] (by kernel_rfl) (fun a W hF hC hD => hD.1) fun a W hF hC hD K hK => ?_
    have e1 : a.tmps.getD 1 undef = .pointer (some ⟨b1, 0, none⟩) := hF.2.1
    clear hF hD hC
    go_simp
    exact hK _ _ rfl (Below.refl _ _)
  · refine Obl.guarded rfl _ rfl 10 true 45 rfl rfl [24, 10] (by kernel_rfl) (fun a W hF hC hD => hD.2.1) fun a W hF hC hD K hK => ?_
    obtain ⟨c1, c2, c3, c4, c5, c6⟩ := hC
    have e59 : a.tmps.getD 59 undef = .pointer (some ⟨b1, 1, none⟩) := hD.1
    clear hF hD
    exact wpAsk (.tmp 59) rfl c2 1 e59 rfl (hK _ _ rfl (Below.refl _ _))
  · refine Obl.guarded rfl _ rfl 10 true 45 rfl rfl [10] (by kernel_rfl) (fun a W hF hC hD => hD.1) fun a W hF hC hD K hK => ?_
    have e10 : a.tmps.getD 10 undef = .slice As bS.length cs := hF.2.2.2.2.2.1
    clear hF hD hC
    go_simp
    exact hK _ _ rfl (Below.refl _ _)
  · refine Obl.guarded rfl _ rfl 10 true 45 rfl rfl [23, 25, 26, 22, 10] (by kernel_rfl) (fun a W hF hC hD => hD.2.2.2.2.1) fun a W hF hC hD K hK => ?_
    obtain ⟨c1, c2, c3, c4, c5, c6⟩ := hC
    have e58 : a.tmps.getD 58 undef = .pointer (some ⟨bf, 0, none⟩) := hD.1
    have e60 : a.tmps.getD 60 undef = vE (x) := hD.2.1
    have e61 : a.tmps.getD 61 undef = .slice As bS.length cs := hD.2.2.1
    clear hF hD
    exact wp_callV #[a.tmps.getD 58 undef, a.tmps.getD 60 undef, a.tmps.getD 61 undef] #[.pointer (some ⟨bf, 0, none⟩), vE (x), .slice As bS.length cs] (vE (x ^ (ev + gv) % P)) (by kernel_rfl) (by rw [e58, e60, e61]) (HxS.out W c1 c6) fun w' hb => hK _ _ rfl hb
  · refine Obl.guarded rfl _ rfl 10 true 45 rfl rfl [22, 27, 10] (by kernel_rfl) (fun a W hF hC hD => hD.2.2.1) fun a W hF hC hD K hK => ?_
    have e57 : a.tmps.getD 57 undef = vE ((x ^ ev % P) * (x ^ gv % P) % P) := hD.1
    have e62 : a.tmps.getD 62 undef = vE (x ^ (ev + gv) % P) := hD.2.1
    clear hF hD hC
    have f0 := eqv_of (pl_pow P x ev gv)
    exact wp_eqlN (.tmp 57) (.tmp 62) _ rfl e57 e62 (hK _ _ (congrArg Value.bool f0) (Below.refl _ _))
  · refine Obl.plain rfl _ rfl rfl [10, 28] (by kernel_rfl) fun a W hF hC hD K hK => ?_
    have e45 : a.tmps.getD 45 undef = .bool true := hD.1
    have e63 : a.tmps.getD 63 undef = .bool true := hD.2.1
    clear hF hD hC
    exact wp_pick (.tmp 45) (.tmp 63) (.const (.bool false)) rfl (b := true) e45 e63 (hK _ _ rfl (Below.refl _ _))
  · refine Obl.plain rfl _ rfl rfl [29, 27] (by kernel_rfl) fun a W hF hC hD K hK => ?_
    have e64 : a.tmps.getD 64 undef = .bool true := hD.1
    clear hF hD hC
    go_simp
    exact hK _ _ rfl (Below.refl _ _)
  · refine Obl.guarded rfl _ rfl 30 true 65 rfl rfl [30] (by kernel_rfl) (fun a W hF hC hD => hD.1) fun a W hF hC hD K hK => ?_
    have e3 : a.tmps.getD 3 undef = .pointer (some ⟨bf, 0, none⟩) := hF.1
    clear hF hD hC
    go_simp
    exact hK _ _ rfl (Below.refl _ _)
  · refine Obl.guarded rfl _ rfl 30 true 65 rfl rfl [30] (by kernel_rfl) (fun a W hF hC hD => hD.1) fun a W hF hC hD K hK => ?_
    have e1 : a.tmps.getD 1 undef = .pointer (some ⟨b1, 0, none⟩) := hF.2.1
    clear hF hD hC
    go_simp
    exact hK _ _ rfl (Below.refl _ _)
  · refine Obl.guarded rfl _ rfl 30 true 65 rfl rfl [32, 30] (by kernel_rfl) (fun a W hF hC hD => hD.2.1) fun a W hF hC hD K hK => ?_
    obtain ⟨c1, c2, c3, c4, c5, c6⟩ := hC
    have e67 : a.tmps.getD 67 undef = .pointer (some ⟨b1, 1, none⟩) := hD.1
    clear hF hD
    exact wpAsk (.tmp 67) rfl c2 1 e67 rfl (hK _ _ rfl (Below.refl _ _))
  · refine Obl.guarded rfl _ rfl 30 true 65 rfl rfl [31, 33, 30, 30] (by kernel_rfl) (fun a W hF hC hD => hD.2.2.1) fun a W hF hC hD K hK => ?_
    obtain ⟨c1, c2, c3, c4, c5, c6⟩ := hC
    have e66 : a.tmps.getD 66 undef = .pointer (some ⟨bf, 0, none⟩) := hD.1
    have e68 : a.tmps.getD 68 undef = vE (x) := hD.2.1
    clear hF hD
    exact wp_callV #[a.tmps.getD 66 undef, a.tmps.getD 68 undef, Value.slice none 0 0] #[.pointer (some ⟨bf, 0, none⟩), vE (x), Value.slice none 0 0] (vE (x ^ 0 % P)) (by kernel_rfl) (by rw [e66, e68]) (HxN.out W c1) fun w' hb => hK _ _ rfl hb
  · refine Obl.guarded rfl _ rfl 30 true 65 rfl rfl [30] (by kernel_rfl) (fun a W hF hC hD => hD.1) fun a W hF hC hD K hK => ?_
    clear hF hD hC
    exact wp_value (vE (1)) (by kernel_rfl) (hK _ _ rfl (Below.refl _ _))
  · refine Obl.guarded rfl _ rfl 30 true 65 rfl rfl [34, 35, 30] (by kernel_rfl) (fun a W hF hC hD => hD.2.2.1) fun a W hF hC hD K hK => ?_
    have e69 : a.tmps.getD 69 undef = vE (x ^ 0 % P) := hD.1
    have e70 : a.tmps.getD 70 undef = vE (1) := hD.2.1
    clear hF hD hC
    have f0 := eqv_of (pl_pow0 Hp.out x)
    exact wp_eqlN (.tmp 69) (.tmp 70) _ rfl e69 e70 (hK _ _ (congrArg Value.bool f0) (Below.refl _ _))
  · refine Obl.plain rfl _ rfl rfl [30, 36] (by kernel_rfl) fun a W hF hC hD K hK => ?_
    have e65 : a.tmps.getD 65 undef = .bool true := hD.1
    have e71 : a.tmps.getD 71 undef = .bool true := hD.2.1
    clear hF hD hC
    exact wp_pick (.tmp 65) (.tmp 71) (.const (.bool false)) rfl (b := true) e65 e71 (hK _ _ rfl (Below.refl _ _))
  rintro w13 hB13 hC13 _ rfl _ rfl _ rfl _ rfl _ rfl _ rfl _ rfl _ rfl _ rfl _ rfl _ rfl _ rfl _ rfl _ rfl _ rfl _ rfl _ rfl _ rfl _ rfl _ rfl _ rfl _ rfl _ rfl _ rfl _ rfl _ rfl _ rfl _ rfl _ rfl _ rfl _ rfl _ rfl _ rfl _ rfl _ rfl _ rfl _ rfl _ rfl
  change Below _ _ _ at hB13
  change wpList _ _ _ _ _ _
  simp only [List.drop_succ_cons, List.drop_zero, Act.put, List.setIfInBounds_toArray, List.set_cons_zero, List.set_cons_succ]
  go_wp2_with fail
  go_ret
  exact ⟨rfl, below_next HB12.out hB13⟩
end Go.Proofs.Ytincemkjdgbnnaa
