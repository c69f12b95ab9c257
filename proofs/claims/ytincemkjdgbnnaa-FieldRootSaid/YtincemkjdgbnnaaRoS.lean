/- Walks: package mont: Sqrt (Tonelli and Shanks). -/
import Derived.Test.YtincemkjdgbnnaaRoo
import Derived.Test.YtincemkjdgbnnaaPlR
set_option linter.unusedVariables false
set_option linter.unusedSimpArgs false
namespace Go.Proofs.Ytincemkjdgbnnaa
open Go.RowKit Lm

section
variable {ops : Array Oper} {rest : List Oper} {o : Oper} {a : Act} {w : World} {Q : Exit → Act → World → Prop}
/-- an operation behind a guard that holds, in a region without a draw. -/
theorem wpList_want {P : Program} (hw : Region.wanted o (yielded ops a.tmps) = true) (h : ∀ K : Act → World → Prop, (∀ a w, wpList P ops Q rest a w → K a w) → o.wp P a w K Q) : wpList P ops Q (o :: rest) a w :=
  wpList_step fun K hK => by simp only [hw, if_true]; exact h K hK
theorem loadTG (ty : TypeId) (hw : Region.wanted o (yielded ops a.tmps) = true) (x : Operand) (ho : o.op = .load ty x) {b v : Nat} {t : TypeId} (hx : a.eval x = .pointer (some ⟨b, 0, none⟩)) (hv : VB w b t (ve v)) {d : TypeDesc} (hu : Try.prog.underlying ty = some d) (hd : d.isRow = true)
    (hi : (Try.prog.info? ty).map (·.size) = some 6) (h : wpList Try.prog ops Q rest (a.put o.dst (vE v)) w) : wpList Try.prog ops Q (o :: rest) a w :=
  wpList_want hw fun K hK => wpE ty x ho hv hx hu hd hi (hK _ _ h)
/-- an element in a block of the call's own is read. -/
theorem loadSE (hgd : o.guard = none) (x : Operand) (ho : o.op = .load 98 x) {w0 : World} {L : List Cel} (hS : St w0 w L) (i : Nat) {c : Cel} (hi : L[i]? = some c) (hx : a.eval x = .pointer (some ⟨c.b, 0, none⟩)) (v : Nat) (hv : c.cs = ve v)
    (h : wpList Try.prog ops Q rest (a.put o.dst (vE v)) w) : wpList Try.prog ops Q (o :: rest) a w := by
  have hb := hS.vb i c hi
  rw [hv] at hb
  exact wpList_plain hgd fun K hK => wpE _ x ho hb hx Try.underlying98 rfl Try.sz98 (hK _ _ h)
theorem loadSN (hgd : o.guard = none) (x : Operand) (ho : o.op = .load 24 x) {w0 : World} {L : List Cel} (hS : St w0 w L) (i : Nat) {c : Cel} (hi : L[i]? = some c) (hx : a.eval x = .pointer (some ⟨c.b, 0, none⟩)) (v : Nat) (hv : c.cs = ve v)
    (h : wpList Try.prog ops Q rest (a.put o.dst (vE v)) w) : wpList Try.prog ops Q (o :: rest) a w := by
  have hb := hS.vb i c hi
  rw [hv] at hb
  exact wpList_plain hgd fun K hK => wpE _ x ho hb hx Try.underlying24 rfl Try.sz24 (hK _ _ h)
end
/-- is there a root? -/
def sqk (P X : Nat) : Bool := decide (X % P = 0 ∨ X ^ ((P - 1) / 2) % P = 1)
/-- what is handed back as a root. -/
def RootOk (P X R : Nat) : Prop := (sqk P X = true → R * R % P = X % P) ∧ (sqk P X = false → R = 0)
theorem digs_len6 {v : Nat} (h : v < B64 ^ 6) : (digs B64 v).length ≤ 6 := digs_length_le B64_ge h
theorem digs_len7 {o : Nat} (h : o < B64 ^ 6) : (digs B64 (o + 1)).length ≤ 7 ∧ (digs B64 ((o + 1) / 2)).length ≤ 7 := by
  have h7 : B64 ^ 6 + 1 < B64 ^ 7 := by decide +kernel
  exact ⟨digs_length_le B64_ge (by omega), digs_length_le B64_ge (by omega)⟩
theorem two_pow_lt {P t o : Nat} (h6 : P < B64 ^ 6) (he : P - 1 = 2 ^ t * o) (ho : o ≠ 0) : t < 384 := by
  rcases Nat.lt_or_ge t 384 with h | h
  · exact h
  · exfalso
    have h1 := Nat.pow_le_pow_right (n := 2) (by decide) h
    have h2 : 2 ^ t * 1 ≤ 2 ^ t * o := Nat.mul_le_mul_left _ (by omega)
    have h3 : B64 ^ 6 = 2 ^ 384 := by decide +kernel
    omega

set_option maxRecDepth 100000 in
set_option maxHeartbeats 6400000 in
theorem msqrt_none (bm P n X : Nat) (w : World) (hF : FB w bm P n) (hI : InvOk P) (h : X % P = 0 ∨ sqB P X = false) :
    Calls Try.prog 79 #[.pointer (some ⟨bm, 0, none⟩), vE (mf P n X)] w fun e w' => e = .returned (.tuple #[vE 0, .bool (decide (X % P = 0))]) ∧ Below w.heap.size w w' := by
  obtain ⟨q, hq⟩ : ∃ q, q = decide (X % P = 0) := ⟨_, rfl⟩
  have hE := eqv_mf0 hF hI X
  rw [← hq] at hE ⊢
  have HE := hide hE
  clear hE
  have hF := hide hF
  have hI := hide hI
  have hS0 := hide (St.start w)
  go_enter Try.func79, Try.ntmps79
  go_upto_region 1 with (first
    | ((with_reducible refine boxS (o := ⟨some 3, _, _, _, _, _⟩) ?_ 98 (.tmp 1) ?_ hS0.out (ve (mf P n X)) ?_ ?_); rfl; rfl; rfl; intro w1 b3 hS; replace hS := hide hS)
    | ((with_reducible refine allocS (o := ⟨some 4, _, _, _, _, _⟩) ?_ 98 ?_ hS.out (ve 0) Try.zr98 ?_); rfl; rfl; intro w2 b4 hS2; replace hS2 : Hid (St w w2 [⟨b3, 98, ve (mf P n X)⟩, ⟨b4, 98, ve (0)⟩]) := hS2))
  clear hS0 hS
  by_cases h0 : X % P = 0
  · obtain rfl : q = true := by rw [hq]; exact decide_eq_true h0
    replace h0 := hide h0
    replace hq := hide hq
    have hE := HE.out
    go_upto_region 2 with ((with_reducible refine loadSE (o := ⟨some 14, _, _, _, _, _⟩) ?_ (.tmp 3) ?_ hS2.out 0 (c := ⟨b3, 98, ve (mf P n X)⟩) ?_ ?_ (mf P n X) ?_ ?_); rfl; rfl; rfl; rfl; rfl)
    have hS3 := hS2
    clear hE
    refine region_do 5 118 [fun v _ => v = vE (0), fun v _ => v = vE (mf P n X), fun v _ => v = vE (0), fun v _ => v = .bool true, fun _ w => VB w b4 98 (ve 0)]
      [(3, .pointer (some ⟨b3, 0, none⟩)), (4, .pointer (some ⟨b4, 0, none⟩))] (fun w' => VB w' b3 98 (ve (mf P n X))) (fun w' => VB w' b4 98 (ve 0)) 4 (some b4) (by kernel_rfl) (by kernel_rfl) rfl rfl
      (.cons (Fact.eq _) rfl (.cons (Fact.eq _) rfl (.cons (Fact.eq _) rfl (.cons (Fact.eq _) rfl (.store (fun w w' h hb => h.next hb) rfl (.nil _)))))) (fun w' h => h.vb (hS3.out.vb 0 _ rfl) (hS3.out.ne 0 1 _ _ rfl rfl (by decide))) (fun w' h => (hS3.out.vb 1 _ rfl).next h) (by kernel_rfl) (by exact ⟨rfl, rfl, trivial⟩) (.cons ?_ (.cons ?_ (.cons ?_ (.cons ?_ (.cons ?_ .nil))))) ?_
    · refine Obl.plain rfl _ rfl rfl [] (by kernel_rfl) fun a W hF hC hD K hK => ?_
      clear hF hD hC
      go_simp
      exact hK _ _ rfl (Below.refl _ _)
    · refine Obl.plain rfl _ rfl rfl [] (by kernel_rfl) fun a W hF hC hD K hK => ?_
      have c1 := hC
      have e3 : a.tmps.getD 3 undef = .pointer (some ⟨b3, 0, none⟩) := hF.1
      clear hF hD
      exact wpE _ (.tmp 3) rfl c1 e3 Try.underlying98 rfl Try.sz98 (hK _ _ rfl (Below.refl _ _))
    · refine Obl.plain rfl _ rfl rfl [] (by kernel_rfl) fun a W hF hC hD K hK => ?_
      clear hF hD hC
      go_simp
      exact hK _ _ rfl (Below.refl _ _)
    · refine Obl.plain rfl _ rfl rfl [1, 2] (by kernel_rfl) fun a W hF hC hD K hK => ?_
      have e24 : a.tmps.getD 24 undef = vE (mf P n X) := hD.1
      have e25 : a.tmps.getD 25 undef = vE (0) := hD.2.1
      clear hF hD hC
      exact wp_eqlE (.tmp 24) (.tmp 25) _ rfl e24 e25 HE.out (hK _ _ rfl (Below.refl _ _))
    · refine Obl.write rfl rfl _ rfl rfl [0, 0] (by kernel_rfl) fun a W hF hC hC0 hD K hK => ?_
      have e4 : a.tmps.getD 4 undef = .pointer (some ⟨b4, 0, none⟩) := hF.2.1
      have e23 : a.tmps.getD 23 undef = vE (0) := hD.1
      clear hF hD hC
      exact wpSt 98 (.tmp 4) (.tmp 23) rfl e4 e23 hC0 Try.sz98 fun W' hv ho => hK _ _ hv ho
    rintro w6 hB6 hC6 _ rfl _ rfl _ rfl _ rfl _ gw
    change Only _ _ _ at hB6
    change wpList _ _ _ _ _ _
    simp only [List.drop_succ_cons, List.drop_zero, Act.put, List.setIfInBounds_toArray, List.set_cons_zero, List.set_cons_succ]
    have hB6' : Only w2 w6 b4 := hB6
    have hB7 := hide (Only.below hS3.out.bl hB6' (hS3.out.lo 1 _ rfl))
    clear hC6 hB6 hB6'
    go_wp2_with fail
    exact retTT 98 rfl rfl rfl gw Try.underlying98 rfl Try.sz98 rfl ⟨rfl, hB7.out⟩
  · obtain rfl : q = false := by rw [hq]; exact decide_eq_false h0
    have hsq := hide (h.resolve_left h0)
    replace h0 := hide h0
    replace hq := hide hq
    have hE := HE.out
    clear h
    go_upto_region 2 with (first
      | ((with_reducible refine loadSE (o := ⟨some 14, _, _, _, _, _⟩) ?_ (.tmp 3) ?_ hS2.out 0 (c := ⟨b3, 98, ve (mf P n X)⟩) ?_ ?_ (mf P n X) ?_ ?_); rfl; rfl; rfl; rfl; rfl)
      | ((with_reducible refine loadTG 98 (o := ⟨some 19, _, _, _, _, _⟩) ?_ (.tmp 3) ?_ ?_ (hS2.out.vb 0 _ rfl) Try.underlying98 rfl Try.sz98 ?_); rfl; rfl; rfl)
      | (go_at_call 124; refine (misq_c bm P n X w2 (hF.out.next hS2.out.bl) hI.out).mono ?_; rw [hsq.out]; rintro e w3 ⟨rfl, hb3⟩; have hS3 := hide (hS2.out.next hb3); clear hb3))
    clear hE
    refine region_do 5 118 [fun v _ => v = vE (0), fun v _ => v = vE (mf P n X), fun v _ => v = vE (0), fun v _ => v = .bool false, fun _ w => VB w b4 98 (ve 0)]
      [(3, .pointer (some ⟨b3, 0, none⟩)), (4, .pointer (some ⟨b4, 0, none⟩))] (fun w' => VB w' b3 98 (ve (mf P n X))) (fun w' => VB w' b4 98 (ve 0)) 4 (some b4) (by kernel_rfl) (by kernel_rfl) rfl rfl
      (.cons (Fact.eq _) rfl (.cons (Fact.eq _) rfl (.cons (Fact.eq _) rfl (.cons (Fact.eq _) rfl (.store (fun w w' h hb => h.next hb) rfl (.nil _)))))) (fun w' h => h.vb (hS3.out.vb 0 _ rfl) (hS3.out.ne 0 1 _ _ rfl rfl (by decide))) (fun w' h => (hS3.out.vb 1 _ rfl).next h) (by kernel_rfl) (by exact ⟨rfl, rfl, trivial⟩) (.cons ?_ (.cons ?_ (.cons ?_ (.cons ?_ (.cons ?_ .nil))))) ?_
    · refine Obl.plain rfl _ rfl rfl [] (by kernel_rfl) fun a W hF hC hD K hK => ?_
      clear hF hD hC
      go_simp
      exact hK _ _ rfl (Below.refl _ _)
    · refine Obl.plain rfl _ rfl rfl [] (by kernel_rfl) fun a W hF hC hD K hK => ?_
      have c1 := hC
      have e3 : a.tmps.getD 3 undef = .pointer (some ⟨b3, 0, none⟩) := hF.1
      clear hF hD
      exact wpE _ (.tmp 3) rfl c1 e3 Try.underlying98 rfl Try.sz98 (hK _ _ rfl (Below.refl _ _))
    · refine Obl.plain rfl _ rfl rfl [] (by kernel_rfl) fun a W hF hC hD K hK => ?_
      clear hF hD hC
      go_simp
      exact hK _ _ rfl (Below.refl _ _)
    · refine Obl.plain rfl _ rfl rfl [1, 2] (by kernel_rfl) fun a W hF hC hD K hK => ?_
      have e24 : a.tmps.getD 24 undef = vE (mf P n X) := hD.1
      have e25 : a.tmps.getD 25 undef = vE (0) := hD.2.1
      clear hF hD hC
      exact wp_eqlE (.tmp 24) (.tmp 25) _ rfl e24 e25 HE.out (hK _ _ rfl (Below.refl _ _))
    · refine Obl.write rfl rfl _ rfl rfl [0, 0] (by kernel_rfl) fun a W hF hC hC0 hD K hK => ?_
      have e4 : a.tmps.getD 4 undef = .pointer (some ⟨b4, 0, none⟩) := hF.2.1
      have e23 : a.tmps.getD 23 undef = vE (0) := hD.1
      clear hF hD hC
      exact wpSt 98 (.tmp 4) (.tmp 23) rfl e4 e23 hC0 Try.sz98 fun W' hv ho => hK _ _ hv ho
    rintro w6 hB6 hC6 _ rfl _ rfl _ rfl _ rfl _ gw
    change Only _ _ _ at hB6
    change wpList _ _ _ _ _ _
    simp only [List.drop_succ_cons, List.drop_zero, Act.put, List.setIfInBounds_toArray, List.set_cons_zero, List.set_cons_succ]
    have hB6' : Only w3 w6 b4 := hB6
    have hB7 := hide (Only.below hS3.out.bl hB6' (hS3.out.lo 1 _ rfl))
    clear hC6 hB6 hB6'
    go_wp2_with fail
    exact retTT 98 rfl rfl rfl gw Try.underlying98 rfl Try.sz98 rfl ⟨rfl, hB7.out⟩

set_option maxRecDepth 100000 in
set_option maxHeartbeats 12800000 in
theorem msqrt_some (bm P n X Z t0 o0 Rf : Nat) (w : World) (hF : FB w bm P n) (hI : InvOk P) (hp : NT.Prime P) (hodd : P % 2 = 1) (hX0 : X % P ≠ 0) (hX1 : X ^ ((P - 1) / 2) % P = 1) (hZ2 : 2 ≤ Z) (hZ : sqB P Z = false) (hZl : ∀ i, 2 ≤ i → i < Z → sqB P i = true)
    (he0 : P - 1 = 2 ^ t0 * o0) (hm0 : o0 % 2 = 1) (hTo : TSto P t0 (X ^ ((o0 + 1) / 2)) (Z ^ o0) (X ^ o0) Rf) :
    Calls Try.prog 79 #[.pointer (some ⟨bm, 0, none⟩), vE (mf P n X)] w fun e w' => e = .returned (.tuple #[vE (mf P n Rf), .bool true]) ∧ Below w.heap.size w w' := by
  have hTo := hide hTo
  have hZl := hide hZl
  replace he0 := hide he0
  replace hm0 := hide hm0
  have hE := hide ((eqv_mf0 hF hI X).trans (decide_eq_false hX0))
  have hsq : Hid (sqB P X = true) := hide (by unfold sqB; rw [decide_eq_true hX1]; rfl)
  have h6 := hide (mP_le hF.lt hF.n6)
  have hP2 := hide hF.gt
  have hF := hide hF
  have hI := hide hI
  have hX1 := hide hX1
  have hX0 := hide hX0
  have hZ := hide hZ
  have hodd := hide hodd
  have hS0 := hide (St.start w)
  go_enter Try.func79, Try.ntmps79
  have hE' := hE.out
  go_upto_region 3 with (first
    | ((with_reducible refine boxS (o := ⟨some 3, _, _, _, _, _⟩) ?_ 98 (.tmp 1) ?_ hS0.out (ve (mf P n X)) ?_ ?_); rfl; rfl; rfl; intro w1 b3 hS; replace hS := hide hS)
    | ((with_reducible refine allocS (o := ⟨some 4, _, _, _, _, _⟩) ?_ 98 ?_ hS.out (ve 0) Try.zr98 ?_); rfl; rfl; intro w2 b4 hS2; replace hS2 : Hid (St w w2 [⟨b3, 98, ve (mf P n X)⟩, ⟨b4, 98, ve (0)⟩]) := hS2)
    | ((with_reducible refine loadSE (o := ⟨some 14, _, _, _, _, _⟩) ?_ (.tmp 3) ?_ hS2.out 0 (c := ⟨b3, 98, ve (mf P n X)⟩) ?_ ?_ (mf P n X) ?_ ?_); rfl; rfl; rfl; rfl; rfl)
    | ((with_reducible refine loadTG 98 (o := ⟨some 19, _, _, _, _, _⟩) ?_ (.tmp 3) ?_ ?_ (hS2.out.vb 0 _ rfl) Try.underlying98 rfl Try.sz98 ?_); rfl; rfl; rfl)
    | (go_at_call 124; refine (misq_c bm P n X w2 (hF.out.next hS2.out.bl) hI.out).mono ?_; rw [hsq.out]; rintro e w3 ⟨rfl, hb3⟩; have hS3 := hide (hS2.out.next hb3); clear hb3))
  clear hS0 hS hS2 hE' hE
  -- the prime less 1
  obtain ⟨g1, hg1⟩ : ∃ g, g = w3.heap.size := ⟨_, rfl⟩
  obtain ⟨w4, hw4⟩ : ∃ W, W = w3.alloc (.cells #[.int .u64 1] 22) := ⟨_, rfl⟩
  have hb4 : Below w3.heap.size w3 w4 := by rw [hw4]; exact below_alloc (Below.refl _ _) _
  have hG4 : Blk w4 g1 22 .u64 [1] := by rw [hw4, hg1]; exact Blk.new w3 .u64 _ [1]
  have hS4 := hide (hS3.out.next hb4)
  have hsub := hide (sub_p (hF.out.next hS4.out.bl) hG4 (by decide) (Nat.le_of_lt hP2.out))
  rw [hg1] at hsub
  replace hg1 := hide hg1
  replace hw4 := hide hw4
  clear hG4 hb4 hS3
  have hw4' := hw4.out.symm
  go_wp2_with (go_at_call 122; refine hsub.out.mono ?_; rintro e w5 ⟨A6, c6, rfl, hc6, hr6, hb6⟩; replace hr6 := hide hr6; have hS5 := hide (hS4.out.next hb6); clear hb6; replace hc6 := hide hc6)
  clear hw4' hsub hS4
  have hp0 : P - 1 ≠ 0 := by have := hP2.out; omega
  replace hp0 := hide hp0
  go_loopg [6, 7] 400 (fun g s6 s7 wr => ∃ (t o : Nat) (A : Option Addr) (c : Nat), P - 1 = 2 ^ t * o ∧ t + g = 400 ∧ s6 = .slice A (digs B64 o).length c ∧ (digs B64 o).length ≤ c ∧ Rd wr .u64 A (digs B64 o) ∧ s7 = .int .i64 (t : Int) ∧ St w wr [⟨b3, 98, ve (mf P n X)⟩, ⟨b4, 98, ve (0)⟩])
  case atStart => exact ⟨0, P - 1, A6, c6, by simp, by simp, rfl, hc6.out, hr6.out, rfl, hS5.out⟩
  case round =>
    obtain ⟨t, o, A, c, he, htg, rfl, hc, hr, rfl, hSr⟩ := hrel
    have ho0 : o ≠ 0 := by rintro rfl; exact hp0.out (by rw [he, Nat.mul_zero])
    have ht := two_pow_lt h6.out he ho0
    have hlo := digs_len6 (v := o) (Nat.lt_of_le_of_lt (Nat.le_trans (Nat.le_mul_of_pos_left o (Nat.pow_pos (n := t) (by decide : 0 < 2))) (by rw [← he]; exact Nat.sub_le _ _)) h6.out)
    have hl0 : 0 < (digs B64 o).length := Nat.pos_of_ne_zero fun h => ho0 ((digs_eq_nil B64_ge).1 (List.length_eq_zero_iff.1 h))
    obtain ⟨ob, off, rfl, hrow⟩ := hr hl0
    have hcell := hrow 0 hl0
    have hy : nth (digs B64 o) 0 = o % B64 := by rw [show nth (digs B64 o) 0 = (digs B64 o).getD 0 0 from rfl, getD_val B64_pos (digs_ok B64_ge o), val_digs B64_ge, Nat.pow_zero, Nat.div_one]
    rw [hy, Nat.add_zero] at hcell
    have hbit := bits_and_one (o % B64) (Nat.mod_lt _ B64_pos)
    rw [show o % B64 % 2 = o % 2 from Nat.mod_mod_of_dvd o (by decide : 2 ∣ B64)] at hbit
    generalize o % B64 = y at hcell hbit
    have i1 : (0 : Int) < ((digs B64 o).length : Int) := by omega
    have Hr := hide hr
    have Hc := hide hc
    have HSr := hide hSr
    have He := hide he
    have Htg := hide htg
    have Hlo := hide hlo
    have ho6 : o < B64 ^ 6 := Nat.lt_of_le_of_lt (Nat.le_trans (Nat.le_mul_of_pos_left o (Nat.pow_pos (n := t) (by decide : 0 < 2))) (by rw [← he]; exact Nat.sub_le _ _)) h6.out
    have hlo1 := hide (digs_len7 ho6).1
    have hlo2 := hide (Nat.le_trans (digs_len7 ho6).2 (by decide : 7 ≤ 1073741824))
    clear ho6
    have hl0 := hide hl0
    clear hr hc hSr he htg hlo hrow hy
    have iw := wrap_in ((t : Int) + 1) (by omega) (by omega)
    rcases Nat.mod_two_eq_zero_or_one o with hm | hm
    · rw [hm, Int.natCast_zero] at hbit
      have hhf := hide (half_p Hr.out Hc.out (Nat.lt_of_le_of_lt Hlo.out (by decide)))
      go_wp2_with (go_at_call 125; refine hhf.out.mono ?_; rintro e wa ⟨A', c', rfl, hca, hra, hba⟩; replace hra := hide hra; replace hca := hide hca; have hSa := hide (HSr.out.next hba); clear hba)
      go_roundg (gk - 1)
      case measure => have := Htg.out; omega
      case rel =>
        refine ⟨t + 1, o / 2, A', c', ?_, by have := Htg.out; omega, rfl, hca.out, hra.out, by simp, hSa.out⟩
        rw [He.out, Nat.pow_succ, Nat.mul_assoc]; congr 1; omega
    · rw [hm, Int.natCast_one] at hbit
      have ht1 : 1 ≤ t := by
        rcases Nat.eq_zero_or_pos t with h | h
        · exfalso
          have h1 := He.out
          rw [h, Nat.pow_zero, Nat.one_mul] at h1
          have h2 := hodd.out
          omega
        · exact h
      clear iw
      obtain ⟨rfl, rfl⟩ := odd_part (he0.out.symm.trans He.out) hm0.out hm
      have hbit' := hbit
      go_upto_region 6 with fail
      clear hbit' hbit hcell i1
      obtain ⟨Bo, hBo⟩ : ∃ B, B = wr.heap.size := ⟨_, rfl⟩
      have hRo := Hr.out.toB
      rw [← hBo] at hRo
      have hF6 := hide (hF.out.next HSr.out.bl)
      refine region_do 11 118 [fun v _ => v = .pointer (some ⟨bm, 0, none⟩), fun v _ => v = .pointer (some ⟨bm, 0, none⟩), fun v _ => v = .pointer (some ⟨bm, 0, none⟩), fun v _ => v = .pointer (some ⟨bm, 8, none⟩), fun v _ => v = vE (mf P n 1), fun v _ => v = .pointer (some ⟨bm, 0, none⟩), fun v _ => v = .pointer (some ⟨bm, 0, none⟩), fun v _ => v = .pointer (some ⟨bm, 8, none⟩), fun v _ => v = vE (mf P n 1), fun v _ => v = vE (mf P n (1 + 1)), fun v w => PV wr.heap.size 98 (ve 0) v w]
        [(0, .pointer (some ⟨bm, 0, none⟩))] (fun w' => St w w' [⟨b3, 98, ve (mf P n X)⟩, ⟨b4, 98, ve (0)⟩] ∧ FB w' bm P n ∧ wr.heap.size ≤ w'.heap.size) (fun w' => True) 999 none (by kernel_rfl) (by kernel_rfl) rfl rfl
        (.cons (Fact.eq _) rfl (.cons (Fact.eq _) rfl (.cons (Fact.eq _) rfl (.cons (Fact.eq _) rfl (.cons (Fact.eq _) rfl (.cons (Fact.eq _) rfl (.cons (Fact.eq _) rfl (.cons (Fact.eq _) rfl (.cons (Fact.eq _) rfl (.cons (Fact.eq _) rfl (.cons (PV.st) rfl (.nil _)))))))))))) (fun w' h => ⟨HSr.out.next h, hF6.out.next h, h.size⟩) (fun w' h => trivial) (by kernel_rfl) (by exact ⟨rfl, trivial⟩) (.cons ?_ (.cons ?_ (.cons ?_ (.cons ?_ (.cons ?_ (.cons ?_ (.cons ?_ (.cons ?_ (.cons ?_ (.cons ?_ (.cons ?_ .nil))))))))))) ?_
      · refine Obl.plain rfl _ rfl rfl [] (by kernel_rfl) fun a W hF hC hD K hK => ?_
        have e0 : a.tmps.getD 0 undef = .pointer (some ⟨bm, 0, none⟩) := hF.1
        clear hF hD hC
        go_simp
        exact hK _ _ rfl (Below.refl _ _)
      · refine Obl.plain rfl _ rfl rfl [] (by kernel_rfl) fun a W hF hC hD K hK => ?_
        have e0 : a.tmps.getD 0 undef = .pointer (some ⟨bm, 0, none⟩) := hF.1
        clear hF hD hC
        go_simp
        exact hK _ _ rfl (Below.refl _ _)
      · refine Obl.plain rfl _ rfl rfl [1] (by kernel_rfl) fun a W hF hC hD K hK => ?_
        have e43 : a.tmps.getD 43 undef = .pointer (some ⟨bm, 0, none⟩) := hD.1
        clear hF hD hC
        go_simp
        exact hK _ _ rfl (Below.refl _ _)
      · refine Obl.plain rfl _ rfl rfl [2] (by kernel_rfl) fun a W hF hC hD K hK => ?_
        have e44 : a.tmps.getD 44 undef = .pointer (some ⟨bm, 0, none⟩) := hD.1
        clear hF hD hC
        go_simp
        exact hK _ _ rfl (Below.refl _ _)
      · refine Obl.plain rfl _ rfl rfl [3] (by kernel_rfl) fun a W hF hC hD K hK => ?_
        obtain ⟨c1, c2, c3⟩ := hC
        have e45 : a.tmps.getD 45 undef = .pointer (some ⟨bm, 8, none⟩) := hD.1
        clear hF hD
        exact wpF (.tmp 45) rfl c2 8 e45 (part_one' P n) (by decide) (hK _ _ rfl (Below.refl _ _))
      · refine Obl.plain rfl _ rfl rfl [] (by kernel_rfl) fun a W hF hC hD K hK => ?_
        have e0 : a.tmps.getD 0 undef = .pointer (some ⟨bm, 0, none⟩) := hF.1
        clear hF hD hC
        go_simp
        exact hK _ _ rfl (Below.refl _ _)
      · refine Obl.plain rfl _ rfl rfl [5] (by kernel_rfl) fun a W hF hC hD K hK => ?_
        have e47 : a.tmps.getD 47 undef = .pointer (some ⟨bm, 0, none⟩) := hD.1
        clear hF hD hC
        go_simp
        exact hK _ _ rfl (Below.refl _ _)
      · refine Obl.plain rfl _ rfl rfl [6] (by kernel_rfl) fun a W hF hC hD K hK => ?_
        have e48 : a.tmps.getD 48 undef = .pointer (some ⟨bm, 0, none⟩) := hD.1
        clear hF hD hC
        go_simp
        exact hK _ _ rfl (Below.refl _ _)
      · refine Obl.plain rfl _ rfl rfl [7] (by kernel_rfl) fun a W hF hC hD K hK => ?_
        obtain ⟨c1, c2, c3⟩ := hC
        have e49 : a.tmps.getD 49 undef = .pointer (some ⟨bm, 8, none⟩) := hD.1
        clear hF hD
        exact wpF (.tmp 49) rfl c2 8 e49 (part_one' P n) (by decide) (hK _ _ rfl (Below.refl _ _))
      · refine Obl.plain rfl _ rfl rfl [0, 4, 8] (by kernel_rfl) fun a W hF hC hD K hK => ?_
        obtain ⟨c1, c2, c3⟩ := hC
        have e42 : a.tmps.getD 42 undef = .pointer (some ⟨bm, 0, none⟩) := hD.1
        have e46 : a.tmps.getD 46 undef = vE (mf P n 1) := hD.2.1
        have e50 : a.tmps.getD 50 undef = vE (mf P n 1) := hD.2.2.1
        clear hF hD
        go_simp
        refine (madd_c bm P n 1 1 W c2).mono ?_
        rintro e W' ⟨rfl, hb⟩
        exact hK _ _ rfl hb
      · refine Obl.plain rfl _ rfl rfl [] (by kernel_rfl) fun a W hF hC hD K hK => ?_
        obtain ⟨c1, c2, c3⟩ := hC
        clear hF hD
        exact wp_alloc 98 rfl (ve 0) Try.zr98 c3 (fun v w' h hb => hK _ _ h hb)
      rintro w6 hB6 hC6 _ rfl _ rfl _ rfl _ rfl _ rfl _ rfl _ rfl _ rfl _ rfl _ rfl v8 g8
      change Below _ _ _ at hB6
      change wpList _ _ _ _ _ _
      simp only [List.drop_succ_cons, List.drop_zero, Act.put, List.setIfInBounds_toArray, List.set_cons_zero, List.set_cons_succ]
      obtain ⟨b8, rfl, hlo8, hv8⟩ := g8
      have hS6 := hide (HSr.out.push hB6 hlo8 hv8)
      rw [← hBo] at hlo8
      replace hRo := hide (hRo.next hB6)
      have hlo8 := hide hlo8
      replace hBo := hide hBo
      clear hB6 hC6 hv8 HSr Hr hF6
      go_wp2_with ((with_reducible refine storeWS (n := 6) (o := ⟨none, _, _, _, _, _⟩) ?_ 98 (.tmp 8) (.tmp 51) ?_ hS6.out 2 (c := ⟨b8, 98, ve (0)⟩) ?_ ?_ (ve (mf P n (1 + 1))) ?_ ?_ ?_ ?_ Try.sz98 ?_); rfl; rfl; rfl; rfl; rfl; rfl; rfl; rfl; intro w7 hS7 hO; replace hS7 : Hid (St w w7 [⟨b3, 98, ve (mf P n X)⟩, ⟨b4, 98, ve (0)⟩, ⟨b8, 98, ve (mf P n (1 + 1))⟩]) := hS7)
      replace hRo := hide (hRo.out.only hO.out hlo8.out)
      clear hO hS6
      go_loopg [] (Z - 2) (fun g wx => ∃ j : Nat, 2 ≤ j ∧ j + g = Z ∧ RdB wx .u64 (some ⟨ob, off, none⟩) (digs B64 o0) Bo ∧ St w wx [⟨b3, 98, ve (mf P n X)⟩, ⟨b4, 98, ve (0)⟩, ⟨b8, 98, ve (mf P n j)⟩])
      case atStart => exact ⟨2, Nat.le_refl _, by omega, hRo.out, hS7.out⟩
      case round =>
        obtain ⟨j, hj2, hjg, hRj, hSj⟩ := hrel
        have hF7 := hide (hF.out.next hSj.bl)
        have hRj := hide hRj
        have hSj := hide hSj
        replace hjg := hide hjg
        replace hj2 := hide hj2
        clear hS7 hRo
        by_cases hsj : sqB P j = true
        · have hjZ : j < Z := by
            have h1 := hjg.out
            rcases Nat.lt_or_ge j Z with h | h
            · exact h
            · exfalso
              obtain rfl : j = Z := by omega
              rw [hZ.out] at hsj; cases hsj
          have hsj := hide hsj
          go_upto_region 8 with (first
            | ((with_reducible refine loadSE (o := ⟨some 53, _, _, _, _, _⟩) ?_ (.tmp 8) ?_ hSj.out 2 (c := ⟨b8, 98, ve (mf P n j)⟩) ?_ ?_ (mf P n j) ?_ ?_); rfl; rfl; rfl; rfl; rfl)
            | (go_at_call 124; refine (misq_c bm P n j wr hF7.out hI.out).mono ?_; rw [hsj.out]; rintro e wa ⟨rfl, hba⟩; have hSa := hide (hSj.out.next hba); replace hRj := hide (hRj.out.next hba); clear hba))
          have hFa := hide (hF.out.next hSa.out.bl)
          refine region_do 7 118 [fun v _ => v = .pointer (some ⟨bm, 0, none⟩), fun v _ => v = vE (mf P n j), fun v _ => v = .pointer (some ⟨bm, 0, none⟩), fun v _ => v = .pointer (some ⟨bm, 0, none⟩), fun v _ => v = .pointer (some ⟨bm, 8, none⟩), fun v _ => v = vE (mf P n 1), fun v _ => v = vE (mf P n (j + 1))]
            [(0, .pointer (some ⟨bm, 0, none⟩)), (8, .pointer (some ⟨b8, 0, none⟩))] (fun w' => St w w' [⟨b3, 98, ve (mf P n X)⟩, ⟨b4, 98, ve (0)⟩, ⟨b8, 98, ve (mf P n j)⟩] ∧ FB w' bm P n) (fun w' => True) 999 none (by kernel_rfl) (by kernel_rfl) rfl rfl
            (.cons (Fact.eq _) rfl (.cons (Fact.eq _) rfl (.cons (Fact.eq _) rfl (.cons (Fact.eq _) rfl (.cons (Fact.eq _) rfl (.cons (Fact.eq _) rfl (.cons (Fact.eq _) rfl (.nil _)))))))) (fun w' h => ⟨hSa.out.next h, hFa.out.next h⟩) (fun w' h => trivial) (by kernel_rfl) (by exact ⟨rfl, rfl, trivial⟩) (.cons ?_ (.cons ?_ (.cons ?_ (.cons ?_ (.cons ?_ (.cons ?_ (.cons ?_ .nil))))))) ?_
          · refine Obl.plain rfl _ rfl rfl [] (by kernel_rfl) fun a W hF hC hD K hK => ?_
            have e0 : a.tmps.getD 0 undef = .pointer (some ⟨bm, 0, none⟩) := hF.1
            clear hF hD hC
            go_simp
            exact hK _ _ rfl (Below.refl _ _)
          · refine Obl.plain rfl _ rfl rfl [] (by kernel_rfl) fun a W hF hC hD K hK => ?_
            obtain ⟨c1, c2⟩ := hC
            have e8 : a.tmps.getD 8 undef = .pointer (some ⟨b8, 0, none⟩) := hF.2.1
            clear hF hD
            exact wpE _ (.tmp 8) rfl (c1.vb 2 _ rfl) e8 Try.underlying98 rfl Try.sz98 (hK _ _ rfl (Below.refl _ _))
          · refine Obl.plain rfl _ rfl rfl [] (by kernel_rfl) fun a W hF hC hD K hK => ?_
            have e0 : a.tmps.getD 0 undef = .pointer (some ⟨bm, 0, none⟩) := hF.1
            clear hF hD hC
            go_simp
            exact hK _ _ rfl (Below.refl _ _)
          · refine Obl.plain rfl _ rfl rfl [2] (by kernel_rfl) fun a W hF hC hD K hK => ?_
            have e57 : a.tmps.getD 57 undef = .pointer (some ⟨bm, 0, none⟩) := hD.1
            clear hF hD hC
            go_simp
            exact hK _ _ rfl (Below.refl _ _)
          · refine Obl.plain rfl _ rfl rfl [3] (by kernel_rfl) fun a W hF hC hD K hK => ?_
            have e58 : a.tmps.getD 58 undef = .pointer (some ⟨bm, 0, none⟩) := hD.1
            clear hF hD hC
            go_simp
            exact hK _ _ rfl (Below.refl _ _)
          · refine Obl.plain rfl _ rfl rfl [4] (by kernel_rfl) fun a W hF hC hD K hK => ?_
            obtain ⟨c1, c2⟩ := hC
            have e59 : a.tmps.getD 59 undef = .pointer (some ⟨bm, 8, none⟩) := hD.1
            clear hF hD
            exact wpF (.tmp 59) rfl c2 8 e59 (part_one' P n) (by decide) (hK _ _ rfl (Below.refl _ _))
          · refine Obl.plain rfl _ rfl rfl [0, 1, 5] (by kernel_rfl) fun a W hF hC hD K hK => ?_
            obtain ⟨c1, c2⟩ := hC
            have e55 : a.tmps.getD 55 undef = .pointer (some ⟨bm, 0, none⟩) := hD.1
            have e56 : a.tmps.getD 56 undef = vE (mf P n j) := hD.2.1
            have e60 : a.tmps.getD 60 undef = vE (mf P n 1) := hD.2.2.1
            clear hF hD
            go_simp
            refine (madd_c bm P n j 1 W c2).mono ?_
            rintro e W' ⟨rfl, hb⟩
            exact hK _ _ rfl hb
          rintro wb hBb hCb _ rfl _ rfl _ rfl _ rfl _ rfl _ rfl _ rfl
          change Below _ _ _ at hBb
          change wpList _ _ _ _ _ _
          simp only [List.drop_succ_cons, List.drop_zero, Act.put, List.setIfInBounds_toArray, List.set_cons_zero, List.set_cons_succ]
          have hSb := hide (hSa.out.next hBb)
          replace hRj := hide (hRj.out.next hBb)
          clear hBb hCb hSa hFa hF7 hSj
          go_wp2_with ((with_reducible refine storeWS (n := 6) (o := ⟨none, _, _, _, _, _⟩) ?_ 98 (.tmp 8) (.tmp 61) ?_ hSb.out 2 (c := ⟨b8, 98, ve (mf P n j)⟩) ?_ ?_ (ve (mf P n (j + 1))) ?_ ?_ ?_ ?_ Try.sz98 ?_); rfl; rfl; rfl; rfl; rfl; rfl; rfl; rfl; intro wc hSc hO; replace hSc : Hid (St w wc [⟨b3, 98, ve (mf P n X)⟩, ⟨b4, 98, ve (0)⟩, ⟨b8, 98, ve (mf P n (j + 1))⟩]) := hSc)
          go_roundg (gk - 1)
          case measure => have := hjg.out; omega
          case rel => exact ⟨j + 1, by have := hj2.out; omega, by have := hjg.out; omega, hRj.out.only hO.out hlo8.out, hSc.out⟩
        · have hsj' : sqB P j = false := by cases h : sqB P j with
            | true => exact absurd h hsj
            | false => rfl
          have hj1 : j ^ ((P - 1) / 2) % P = P - 1 := by
            have h1 := hsj'
            unfold sqB at h1
            rw [Bool.or_eq_false_iff, decide_eq_false_iff_not, decide_eq_false_iff_not] at h1
            exact no_square hp hodd.out h1.1 h1.2 (by have := hP2.out; have := hodd.out; omega)
          have hts := hide (ts_start (X := X) (Z := j) ht1 He.out hm hX1.out hj1)
          have hjZ : Z = j := by
            rcases Nat.lt_or_ge j Z with h | h
            · rw [hZl.out j hj2.out h] at hsj'; cases hsj'
            · have := hjg.out; omega
          subst hjZ
          have hsj' := hide hsj'
          clear hj1 hsj
          go_upto_region 9 with (first
            | ((with_reducible refine loadSE (o := ⟨some 53, _, _, _, _, _⟩) ?_ (.tmp 8) ?_ hSj.out 2 (c := ⟨b8, 98, ve (mf P n Z)⟩) ?_ ?_ (mf P n Z) ?_ ?_); rfl; rfl; rfl; rfl; rfl)
            | (go_at_call 124; refine (misq_c bm P n Z wr hF7.out hI.out).mono ?_; rw [hsj'.out]; rintro e wa ⟨rfl, hba⟩; have hSa := hide (hSj.out.next hba); replace hRj := hide (hRj.out.next hba); clear hba))
          have hFa := hide (hF.out.next hSa.out.bl)
          have hlo' := hide (Nat.le_trans Hlo.out (by decide : 6 ≤ 1073741824))
          clear hSj hF7
          refine region_loc 12 118 [fun v _ => v = .pointer (some ⟨bm, 0, none⟩), fun v _ => v = vE (mf P n Z), fun v _ => v = .slice (some ⟨ob, off, none⟩) (digs B64 o0).length c, fun v _ => v = vE (mf P n (Z ^ o0)), fun v _ => v = .pointer (some ⟨bm, 0, none⟩), fun v _ => v = vE (mf P n X), fun v _ => v = .slice (some ⟨ob, off, none⟩) (digs B64 o0).length c, fun v _ => v = vE (mf P n (X ^ o0)), fun _ _ => True, fun _ _ => True, fun _ _ => True, fun _ _ => True]
            [(0, .pointer (some ⟨bm, 0, none⟩)), (8, .pointer (some ⟨b8, 0, none⟩)), (6, .slice (some ⟨ob, off, none⟩) (digs B64 o0).length c), (3, .pointer (some ⟨b3, 0, none⟩))] (fun w' => St w w' [⟨b3, 98, ve (mf P n X)⟩, ⟨b4, 98, ve (0)⟩, ⟨b8, 98, ve (mf P n Z)⟩] ∧ FB w' bm P n ∧ Rd w' .u64 (some ⟨ob, off, none⟩) (digs B64 o0)) [8, 9] 98 (ve 0) [(10, 8, ve (mf P n (Z ^ o0))), (11, 9, ve (mf P n (X ^ o0)))] (by kernel_rfl) (by kernel_rfl) rfl rfl
            (.cons (factB_eq _) (.cons (factB_eq _) (.cons (factB_eq _) (.cons (factB_eq _) (.cons (factB_eq _) (.cons (factB_eq _) (.cons (factB_eq _) (.cons (factB_eq _) (.cons (fun _ _ _ _ _ _ => trivial) (.cons (fun _ _ _ _ _ _ => trivial) (.cons (fun _ _ _ _ _ _ => trivial) (.cons (fun _ _ _ _ _ _ => trivial) .nil)))))))))))) (by kernel_rfl) (fun w' h => ⟨hSa.out.next h, hFa.out.next h, hRj.out.rd.below h⟩) (by kernel_rfl) (by exact ⟨rfl, rfl, rfl, rfl, trivial⟩) (by kernel_rfl) (allC ⟨⟨_, _, rfl, rfl, rfl, rfl⟩⟩ (allC ⟨⟨_, _, rfl, rfl, rfl, rfl⟩⟩ allN)) (allC (fun _ _ => trivial) (allC (fun _ _ => trivial) allN)) (by rfl) (allC ⟨⟨_, 9, 65, 3, rfl, rfl, rfl, rfl, rfl, rfl, by kernel_rfl, by kernel_rfl, fun v w h => h⟩⟩ (allC ⟨⟨_, 10, 69, 7, rfl, rfl, rfl, rfl, rfl, rfl, by kernel_rfl, by kernel_rfl, fun v w h => h⟩⟩ allN)) (allC (fun _ _ => trivial) (allC (fun _ _ => trivial) allN)) (show ([10, 11] : List Nat).Nodup by decide) Try.zr98 Try.sz98 (.cons (fun _ _ => ?_) (.cons (fun _ _ => ?_) (.cons (fun _ _ => ?_) (.cons (fun _ _ => ?_) (.cons (fun _ _ => ?_) (.cons (fun _ _ => ?_) (.cons (fun _ _ => ?_) (.cons (fun _ _ => ?_) (.cons (fun h _ => absurd h (by decide)) (.cons (fun h _ => absurd h (by decide)) (.cons (fun _ h => absurd (show true = false from h) (by decide)) (.cons (fun _ h => absurd (show true = false from h) (by decide)) .nil)))))))))))) ?_
          · refine Obl.plain rfl _ rfl rfl [] (by kernel_rfl) fun a W hF hC hD K hK => ?_
            have e0 : a.tmps.getD 0 undef = .pointer (some ⟨bm, 0, none⟩) := hF.1
            clear hF hD hC
            go_simp
            exact hK _ _ rfl (Below.refl _ _)
          · refine Obl.plain rfl _ rfl rfl [] (by kernel_rfl) fun a W hF hC hD K hK => ?_
            obtain ⟨c1, c2, c3⟩ := hC
            have e8 : a.tmps.getD 8 undef = .pointer (some ⟨b8, 0, none⟩) := hF.2.1
            clear hF hD
            exact wpE _ (.tmp 8) rfl (c1.vb 2 _ rfl) e8 Try.underlying98 rfl Try.sz98 (hK _ _ rfl (Below.refl _ _))
          · refine Obl.plain rfl _ rfl rfl [] (by kernel_rfl) fun a W hF hC hD K hK => ?_
            have e6 : a.tmps.getD 6 undef = .slice (some ⟨ob, off, none⟩) (digs B64 o0).length c := hF.2.2.1
            clear hF hD hC
            go_simp
            exact hK _ _ rfl (Below.refl _ _)
          · refine Obl.plain rfl _ rfl rfl [0, 1, 2] (by kernel_rfl) fun a W hF hC hD K hK => ?_
            obtain ⟨c1, c2, c3⟩ := hC
            have e62 : a.tmps.getD 62 undef = .pointer (some ⟨bm, 0, none⟩) := hD.1
            have e63 : a.tmps.getD 63 undef = vE (mf P n Z) := hD.2.1
            have e64 : a.tmps.getD 64 undef = .slice (some ⟨ob, off, none⟩) (digs B64 o0).length c := hD.2.2.1
            clear hF hD
            have h := mexp_c bm P n Z (some ⟨ob, off, none⟩) c (digs B64 o0) W c2 hI.out c3 Hc.out hlo'.out (digs_ok B64_ge _)
            rw [val_digs B64_ge] at h
            go_simp
            refine h.mono ?_
            rintro e W' ⟨rfl, hb⟩
            exact hK _ _ rfl hb
          · refine Obl.plain rfl _ rfl rfl [] (by kernel_rfl) fun a W hF hC hD K hK => ?_
            have e0 : a.tmps.getD 0 undef = .pointer (some ⟨bm, 0, none⟩) := hF.1
            clear hF hD hC
            go_simp
            exact hK _ _ rfl (Below.refl _ _)
          · refine Obl.plain rfl _ rfl rfl [] (by kernel_rfl) fun a W hF hC hD K hK => ?_
            obtain ⟨c1, c2, c3⟩ := hC
            have e3 : a.tmps.getD 3 undef = .pointer (some ⟨b3, 0, none⟩) := hF.2.2.2.1
            clear hF hD
            exact wpE _ (.tmp 3) rfl (c1.vb 0 _ rfl) e3 Try.underlying98 rfl Try.sz98 (hK _ _ rfl (Below.refl _ _))
          · refine Obl.plain rfl _ rfl rfl [] (by kernel_rfl) fun a W hF hC hD K hK => ?_
            have e6 : a.tmps.getD 6 undef = .slice (some ⟨ob, off, none⟩) (digs B64 o0).length c := hF.2.2.1
            clear hF hD hC
            go_simp
            exact hK _ _ rfl (Below.refl _ _)
          · refine Obl.plain rfl _ rfl rfl [4, 5, 6, 3] (by kernel_rfl) fun a W hF hC hD K hK => ?_
            obtain ⟨c1, c2, c3⟩ := hC
            have e66 : a.tmps.getD 66 undef = .pointer (some ⟨bm, 0, none⟩) := hD.1
            have e67 : a.tmps.getD 67 undef = vE (mf P n X) := hD.2.1
            have e68 : a.tmps.getD 68 undef = .slice (some ⟨ob, off, none⟩) (digs B64 o0).length c := hD.2.2.1
            clear hF hD
            have h := mexp_c bm P n X (some ⟨ob, off, none⟩) c (digs B64 o0) W c2 hI.out c3 Hc.out hlo'.out (digs_ok B64_ge _)
            rw [val_digs B64_ge] at h
            go_simp
            refine h.mono ?_
            rintro e W' ⟨rfl, hb⟩
            exact hK _ _ rfl hb
          rintro wb bs hBb hCb hAl hDl hSl _ rfl _ rfl _ rfl _ rfl _ rfl _ rfl _ rfl _ rfl _ rfl _ rfl _ - _ -
          obtain ⟨hlb9, Lb9, hvb9, hnb9⟩ := hAl 8 (by decide)
          obtain ⟨hlb10, Lb10, hvb10, hnb10⟩ := hAl 9 (by decide)
          have hdb9b10 := hDl 8 9 (by decide) (by decide) (by decide)
          have hsb9 := hSl _ (.head _)
          have hsb10 := hSl _ (.tail _ (.head _))
          clear hAl hDl hSl
          change _ ≤ bs 8 at hlb9
          change _ ≤ bs 9 at hlb10
          change VB _ (bs 8) _ _ at hsb9
          change VB _ (bs 9) _ _ at hsb10
          change wpList _ _ _ _ _ _
          simp only [List.drop_succ_cons, List.drop_zero, Act.put, List.setIfInBounds_toArray, List.set_cons_zero, List.set_cons_succ]
          generalize bs 8 = b9 at *
          generalize bs 9 = b10 at *
          clear bs
          have hSb := hide (hSa.out.pushL hBb [⟨b9, 98, ve (mf P n (Z ^ o0))⟩, ⟨b10, 98, ve (mf P n (X ^ o0))⟩] ⟨hlb9, hsb9, (fun d hd => by simp at hd; subst hd; exact hdb9b10), hlb10, hsb10, (fun d hd => by cases hd), trivial⟩)
          have hFb := hide (hF.out.next hSb.out.bl)
          replace hRj := hide (hRj.out.next hBb)
          clear hBb hCb hlb9 hsb9 hdb9b10 hlb10 hsb10 hvb9 hnb9 hvb10 hnb10 hSa hFa
          go_upto_region 10 with fail
          refine region_do 8 118 [fun v _ => v = .pointer (some ⟨bm, 0, none⟩), fun v _ => v = vE (mf P n X), fun v _ => v = .slice (some ⟨ob, off, none⟩) (digs B64 o0).length c, fun v w => ∃ b, v = .slice (some ⟨b, 0, none⟩) 1 1 ∧ Blk w b 22 .u64 [1], fun v w => RetV w .u64 (digs B64 (o0 + 1)) v, fun v w => RetV w .u64 (digs B64 ((o0 + 1) / 2)) v, fun v _ => v = vE (mf P n (X ^ ((o0 + 1) / 2))), fun v w => PV wb.heap.size 98 (ve 0) v w]
            [(0, .pointer (some ⟨bm, 0, none⟩)), (3, .pointer (some ⟨b3, 0, none⟩)), (6, .slice (some ⟨ob, off, none⟩) (digs B64 o0).length c)] (fun w' => St w w' [⟨b3, 98, ve (mf P n X)⟩, ⟨b4, 98, ve (0)⟩, ⟨b8, 98, ve (mf P n Z)⟩, ⟨b9, 98, ve (mf P n (Z ^ o0))⟩, ⟨b10, 98, ve (mf P n (X ^ o0))⟩] ∧ FB w' bm P n ∧ Rd w' .u64 (some ⟨ob, off, none⟩) (digs B64 o0) ∧ wb.heap.size ≤ w'.heap.size) (fun w' => True) 999 none (by kernel_rfl) (by kernel_rfl) rfl rfl
            (.cons (Fact.eq _) rfl (.cons (Fact.eq _) rfl (.cons (Fact.eq _) rfl (.cons (fun v w w' ⟨b, h1, h2⟩ hb => ⟨b, h1, h2.next hb⟩) rfl (.cons (fun v w w' h hb => h.next hb) rfl (.cons (fun v w w' h hb => h.next hb) rfl (.cons (Fact.eq _) rfl (.cons (PV.st) rfl (.nil _))))))))) (fun w' h => ⟨hSb.out.next h, hFb.out.next h, hRj.out.rd.below h, h.size⟩) (fun w' h => trivial) (by kernel_rfl) (by exact ⟨rfl, rfl, rfl, trivial⟩) (.cons ?_ (.cons ?_ (.cons ?_ (.cons ?_ (.cons ?_ (.cons ?_ (.cons ?_ (.cons ?_ .nil)))))))) ?_
          · refine Obl.plain rfl _ rfl rfl [] (by kernel_rfl) fun a W hF hC hD K hK => ?_
            have e0 : a.tmps.getD 0 undef = .pointer (some ⟨bm, 0, none⟩) := hF.1
            clear hF hD hC
            go_simp
            exact hK _ _ rfl (Below.refl _ _)
          · refine Obl.plain rfl _ rfl rfl [] (by kernel_rfl) fun a W hF hC hD K hK => ?_
            obtain ⟨c1, c2, c3, c4⟩ := hC
            have e3 : a.tmps.getD 3 undef = .pointer (some ⟨b3, 0, none⟩) := hF.2.1
            clear hF hD
            exact wpE _ (.tmp 3) rfl (c1.vb 0 _ rfl) e3 Try.underlying98 rfl Try.sz98 (hK _ _ rfl (Below.refl _ _))
          · refine Obl.plain rfl _ rfl rfl [] (by kernel_rfl) fun a W hF hC hD K hK => ?_
            have e6 : a.tmps.getD 6 undef = .slice (some ⟨ob, off, none⟩) (digs B64 o0).length c := hF.2.2.1
            clear hF hD hC
            go_simp
            exact hK _ _ rfl (Below.refl _ _)
          · refine Obl.plain rfl _ rfl rfl [] (by kernel_rfl) fun a W hF hC hD K hK => ?_
            clear hF hD hC
            go_simp
            exact hK _ _ ⟨_, rfl, Blk.new W .u64 _ [1]⟩ (below_alloc (Below.refl _ _) _)
          · refine Obl.plain rfl _ rfl rfl [2, 3] (by kernel_rfl) fun a W hF hC hD K hK => ?_
            obtain ⟨c1, c2, c3, c4⟩ := hC
            have e72 : a.tmps.getD 72 undef = .slice (some ⟨ob, off, none⟩) (digs B64 o0).length c := hD.1
            have e73 : (fun (v : Value) (w : World) => ∃ b, v = .slice (some ⟨b, 0, none⟩) 1 1 ∧ Blk w b 22 .u64 [1]) (a.tmps.getD 73 undef) W := hD.2.1
            clear hF hD
            obtain ⟨b2, h2, hB2⟩ := e73
            have h := add_any (some ⟨ob, off, none⟩) (some ⟨b2, 0, none⟩) c 1 (digs B64 o0) [1] W c3 Hc.out (Nat.lt_of_le_of_lt Hlo.out (by decide)) (digs_ok B64_ge _) (fun _ => ⟨_, _, rfl, hB2.row0⟩) (Nat.le_refl _) (Ok.cons (by decide) Ok.nil) hl0.out
            rw [val_digs B64_ge, show val B64 [1] = 1 by simp [val]] at h
            go_simp
            refine h.mono ?_
            rintro e W' ⟨A, c, rfl, hc, hr, hb⟩
            exact hK _ _ ⟨A, c, rfl, hc, hr⟩ hb
          · refine Obl.plain rfl _ rfl rfl [4, 4] (by kernel_rfl) fun a W hF hC hD K hK => ?_
            have e74 : (fun (v : Value) (w : World) => RetV w .u64 (digs B64 (o0 + 1)) v) (a.tmps.getD 74 undef) W := hD.1
            clear hF hD hC
            obtain ⟨A, c, h2, hc, hr⟩ := e74
            go_simp
            refine (half_p hr hc (Nat.lt_of_le_of_lt hlo1.out (by decide))).mono ?_
            rintro e W' ⟨A, c, rfl, hc, hr, hb⟩
            exact hK _ _ ⟨A, c, rfl, hc, hr⟩ hb
          · refine Obl.plain rfl _ rfl rfl [0, 1, 5, 5] (by kernel_rfl) fun a W hF hC hD K hK => ?_
            obtain ⟨c1, c2, c3, c4⟩ := hC
            have e70 : a.tmps.getD 70 undef = .pointer (some ⟨bm, 0, none⟩) := hD.1
            have e71 : a.tmps.getD 71 undef = vE (mf P n X) := hD.2.1
            have e75 : (fun (v : Value) (w : World) => RetV w .u64 (digs B64 ((o0 + 1) / 2)) v) (a.tmps.getD 75 undef) W := hD.2.2.1
            clear hF hD
            obtain ⟨A, c, h2, hc, hr⟩ := e75
            have h := mexp_c bm P n X A c (digs B64 ((o0 + 1) / 2)) W c2 hI.out hr hc hlo2.out (digs_ok B64_ge _)
            rw [val_digs B64_ge] at h
            go_simp
            refine h.mono ?_
            rintro e W' ⟨rfl, hb⟩
            exact hK _ _ rfl hb
          · refine Obl.plain rfl _ rfl rfl [] (by kernel_rfl) fun a W hF hC hD K hK => ?_
            obtain ⟨c1, c2, c3, c4⟩ := hC
            clear hF hD
            exact wp_alloc 98 rfl (ve 0) Try.zr98 c4 (fun v w' h hb => hK _ _ h hb)
          rintro wc hBc hCc _ rfl _ rfl _ rfl v73 g73 v74 g74 v75 g75 _ rfl v11 g11
          change Below _ _ _ at hBc
          change wpList _ _ _ _ _ _
          simp only [List.drop_succ_cons, List.drop_zero, Act.put, List.setIfInBounds_toArray, List.set_cons_zero, List.set_cons_succ]
          obtain ⟨b11, rfl, hlo11, hv11⟩ := g11
          have hSc := hide (hSb.out.push hBc hlo11 hv11)
          clear hBc hCc hlo11 hv11 g73 g74 g75 hSb hFb hRj hlo1 hlo2 hlo' Hlo Hc
          generalize X ^ ((o0 + 1) / 2) = R0 at *
          generalize X ^ o0 = T0 at *
          generalize Z ^ o0 = C0 at *
          go_wp2_with ((with_reducible refine storeWS (n := 6) (o := ⟨none, _, _, _, _, _⟩) ?_ 98 (.tmp 11) (.tmp 76) ?_ hSc.out 5 (c := ⟨b11, 98, ve (0)⟩) ?_ ?_ (ve (mf P n R0)) ?_ ?_ ?_ ?_ Try.sz98 ?_); rfl; rfl; rfl; rfl; rfl; rfl; rfl; rfl; intro wd hSd hO; replace hSd : Hid (St w wd [⟨b3, 98, ve (mf P n X)⟩, ⟨b4, 98, ve (0)⟩, ⟨b8, 98, ve (mf P n Z)⟩, ⟨b9, 98, ve (mf P n C0)⟩, ⟨b10, 98, ve (mf P n T0)⟩, ⟨b11, 98, ve (mf P n R0)⟩]) := hSd)
          clear hO hSc
          have ht4 := hide (show t0 ≤ 384 from Nat.le_of_lt ht)
          replace ht := hide ht
          replace ht1 := hide ht1
          replace hm := hide hm
          replace ho0 := hide ho0
          go_loopg [7, 12, 13] t0 (fun g s7 s12 s13 wx => ∃ R C T : Nat, s7 = .int .i64 (g : Int) ∧ g ≤ 384 ∧ TS P X g R C T ∧ TSto P g R C T Rf ∧ St w wx [⟨b3, 98, ve (mf P n X)⟩, ⟨b4, 98, ve (0)⟩, ⟨b8, 98, ve (mf P n Z)⟩, ⟨b9, 98, ve (mf P n C)⟩, ⟨b10, 98, ve (mf P n T)⟩, ⟨b11, 98, ve (mf P n R)⟩])
          case atStart => exact ⟨R0, C0, T0, rfl, ht4.out, hts.out, hTo.out, hSd.out⟩
          case round =>
            obtain ⟨R, C, T, rfl, hg4, hTS, hTo, hSx⟩ := hrel
            have hTo := hide hTo
            obtain ⟨s, hs⟩ : ∃ s, s = gk := ⟨_, rfl⟩
            subst hs
            obtain ⟨wx, hwx⟩ : ∃ W, W = wr := ⟨_, rfl⟩
            subst hwx
            have hTS := hide hTS
            have hSx := hide hSx
            have hFx := hide (hF.out.next hSx.out.bl)
            clear hSd
            go_upto_region 11 with fail
            by_cases hT1 : T % P = 1
            ·
              refine region_do 6 118 [fun v _ => v = vE (mf P n T), fun v _ => v = .pointer (some ⟨bm, 0, none⟩), fun v _ => v = .pointer (some ⟨bm, 0, none⟩), fun v _ => v = .pointer (some ⟨bm, 8, none⟩), fun v _ => v = vE (mf P n 1), fun v _ => v = .bool false]
                [(10, .pointer (some ⟨b10, 0, none⟩)), (0, .pointer (some ⟨bm, 0, none⟩))] (fun w' => St w w' [⟨b3, 98, ve (mf P n X)⟩, ⟨b4, 98, ve (0)⟩, ⟨b8, 98, ve (mf P n Z)⟩, ⟨b9, 98, ve (mf P n C)⟩, ⟨b10, 98, ve (mf P n T)⟩, ⟨b11, 98, ve (mf P n R)⟩] ∧ FB w' bm P n) (fun w' => True) 999 none (by kernel_rfl) (by kernel_rfl) rfl rfl
                (.cons (Fact.eq _) rfl (.cons (Fact.eq _) rfl (.cons (Fact.eq _) rfl (.cons (Fact.eq _) rfl (.cons (Fact.eq _) rfl (.cons (Fact.eq _) rfl (.nil _))))))) (fun w' h => ⟨hSx.out.next h, hFx.out.next h⟩) (fun w' h => trivial) (by kernel_rfl) (by exact ⟨rfl, rfl, trivial⟩) (.cons ?_ (.cons ?_ (.cons ?_ (.cons ?_ (.cons ?_ (.cons ?_ .nil)))))) ?_
              · refine Obl.plain rfl _ rfl rfl [] (by kernel_rfl) fun a W hF hC hD K hK => ?_
                obtain ⟨c1, c2⟩ := hC
                have e10 : a.tmps.getD 10 undef = .pointer (some ⟨b10, 0, none⟩) := hF.1
                clear hF hD
                exact wpE _ (.tmp 10) rfl (c1.vb 4 _ rfl) e10 Try.underlying98 rfl Try.sz98 (hK _ _ rfl (Below.refl _ _))
              · refine Obl.plain rfl _ rfl rfl [] (by kernel_rfl) fun a W hF hC hD K hK => ?_
                have e0 : a.tmps.getD 0 undef = .pointer (some ⟨bm, 0, none⟩) := hF.2.1
                clear hF hD hC
                go_simp
                exact hK _ _ rfl (Below.refl _ _)
              · refine Obl.plain rfl _ rfl rfl [1] (by kernel_rfl) fun a W hF hC hD K hK => ?_
                have e78 : a.tmps.getD 78 undef = .pointer (some ⟨bm, 0, none⟩) := hD.1
                clear hF hD hC
                go_simp
                exact hK _ _ rfl (Below.refl _ _)
              · refine Obl.plain rfl _ rfl rfl [2] (by kernel_rfl) fun a W hF hC hD K hK => ?_
                have e79 : a.tmps.getD 79 undef = .pointer (some ⟨bm, 0, none⟩) := hD.1
                clear hF hD hC
                go_simp
                exact hK _ _ rfl (Below.refl _ _)
              · refine Obl.plain rfl _ rfl rfl [3] (by kernel_rfl) fun a W hF hC hD K hK => ?_
                obtain ⟨c1, c2⟩ := hC
                have e80 : a.tmps.getD 80 undef = .pointer (some ⟨bm, 8, none⟩) := hD.1
                clear hF hD
                exact wpF (.tmp 80) rfl c2 8 e80 (part_one' P n) (by decide) (hK _ _ rfl (Below.refl _ _))
              · refine Obl.plain rfl _ rfl rfl [0, 4] (by kernel_rfl) fun a W hF hC hD K hK => ?_
                obtain ⟨c1, c2⟩ := hC
                have e77 : a.tmps.getD 77 undef = vE (mf P n T) := hD.1
                have e81 : a.tmps.getD 81 undef = vE (mf P n 1) := hD.2.1
                clear hF hD
                exact wp_neqE (.tmp 77) (.tmp 81) _ rfl e77 e81 ((eqv_mf1 c2 hI.out T).trans (decide_eq_true hT1)) (hK _ _ rfl (Below.refl _ _))
              rintro wa hBa hCa _ rfl _ rfl _ rfl _ rfl _ rfl _ rfl
              change Below _ _ _ at hBa
              change wpList _ _ _ _ _ _
              simp only [List.drop_succ_cons, List.drop_zero, Act.put, List.setIfInBounds_toArray, List.set_cons_zero, List.set_cons_succ]
              have hSa := hide (hSx.out.next hBa)
              obtain rfl := hTo.out.at_one hT1
              replace hT1 := hide hT1
              clear hBa hCa hSx hFx hTS
              go_wp2_with (first
                | ((with_reducible refine loadSE (o := ⟨some 117, _, _, _, _, _⟩) ?_ (.tmp 11) ?_ hSa.out 5 (c := ⟨b11, 98, ve (mf P n Rf)⟩) ?_ ?_ (mf P n Rf) ?_ ?_); rfl; rfl; rfl; rfl; rfl)
                | ((with_reducible refine storeWS (n := 6) (o := ⟨none, _, _, _, _, _⟩) ?_ 98 (.tmp 4) (.tmp 117) ?_ hSa.out 1 (c := ⟨b4, 98, ve (0)⟩) ?_ ?_ (ve (mf P n Rf)) ?_ ?_ ?_ ?_ Try.sz98 ?_); rfl; rfl; rfl; rfl; rfl; rfl; rfl; rfl; intro wb hSb hO; replace hSb : Hid (St w wb [⟨b3, 98, ve (mf P n X)⟩, ⟨b4, 98, ve (mf P n Rf)⟩, ⟨b8, 98, ve (mf P n Z)⟩, ⟨b9, 98, ve (mf P n C)⟩, ⟨b10, 98, ve (mf P n T)⟩, ⟨b11, 98, ve (mf P n Rf)⟩]) := hSb))
              exact retTT 98 rfl rfl rfl (hSb.out.vb 1 _ rfl) Try.underlying98 rfl Try.sz98 rfl ⟨rfl, hSb.out.bl⟩
            ·
              refine region_do 6 118 [fun v _ => v = vE (mf P n T), fun v _ => v = .pointer (some ⟨bm, 0, none⟩), fun v _ => v = .pointer (some ⟨bm, 0, none⟩), fun v _ => v = .pointer (some ⟨bm, 8, none⟩), fun v _ => v = vE (mf P n 1), fun v _ => v = .bool true]
                [(10, .pointer (some ⟨b10, 0, none⟩)), (0, .pointer (some ⟨bm, 0, none⟩))] (fun w' => St w w' [⟨b3, 98, ve (mf P n X)⟩, ⟨b4, 98, ve (0)⟩, ⟨b8, 98, ve (mf P n Z)⟩, ⟨b9, 98, ve (mf P n C)⟩, ⟨b10, 98, ve (mf P n T)⟩, ⟨b11, 98, ve (mf P n R)⟩] ∧ FB w' bm P n) (fun w' => True) 999 none (by kernel_rfl) (by kernel_rfl) rfl rfl
                (.cons (Fact.eq _) rfl (.cons (Fact.eq _) rfl (.cons (Fact.eq _) rfl (.cons (Fact.eq _) rfl (.cons (Fact.eq _) rfl (.cons (Fact.eq _) rfl (.nil _))))))) (fun w' h => ⟨hSx.out.next h, hFx.out.next h⟩) (fun w' h => trivial) (by kernel_rfl) (by exact ⟨rfl, rfl, trivial⟩) (.cons ?_ (.cons ?_ (.cons ?_ (.cons ?_ (.cons ?_ (.cons ?_ .nil)))))) ?_
              · refine Obl.plain rfl _ rfl rfl [] (by kernel_rfl) fun a W hF hC hD K hK => ?_
                obtain ⟨c1, c2⟩ := hC
                have e10 : a.tmps.getD 10 undef = .pointer (some ⟨b10, 0, none⟩) := hF.1
                clear hF hD
                exact wpE _ (.tmp 10) rfl (c1.vb 4 _ rfl) e10 Try.underlying98 rfl Try.sz98 (hK _ _ rfl (Below.refl _ _))
              · refine Obl.plain rfl _ rfl rfl [] (by kernel_rfl) fun a W hF hC hD K hK => ?_
                have e0 : a.tmps.getD 0 undef = .pointer (some ⟨bm, 0, none⟩) := hF.2.1
                clear hF hD hC
                go_simp
                exact hK _ _ rfl (Below.refl _ _)
              · refine Obl.plain rfl _ rfl rfl [1] (by kernel_rfl) fun a W hF hC hD K hK => ?_
                have e78 : a.tmps.getD 78 undef = .pointer (some ⟨bm, 0, none⟩) := hD.1
                clear hF hD hC
                go_simp
                exact hK _ _ rfl (Below.refl _ _)
              · refine Obl.plain rfl _ rfl rfl [2] (by kernel_rfl) fun a W hF hC hD K hK => ?_
                have e79 : a.tmps.getD 79 undef = .pointer (some ⟨bm, 0, none⟩) := hD.1
                clear hF hD hC
                go_simp
                exact hK _ _ rfl (Below.refl _ _)
              · refine Obl.plain rfl _ rfl rfl [3] (by kernel_rfl) fun a W hF hC hD K hK => ?_
                obtain ⟨c1, c2⟩ := hC
                have e80 : a.tmps.getD 80 undef = .pointer (some ⟨bm, 8, none⟩) := hD.1
                clear hF hD
                exact wpF (.tmp 80) rfl c2 8 e80 (part_one' P n) (by decide) (hK _ _ rfl (Below.refl _ _))
              · refine Obl.plain rfl _ rfl rfl [0, 4] (by kernel_rfl) fun a W hF hC hD K hK => ?_
                obtain ⟨c1, c2⟩ := hC
                have e77 : a.tmps.getD 77 undef = vE (mf P n T) := hD.1
                have e81 : a.tmps.getD 81 undef = vE (mf P n 1) := hD.2.1
                clear hF hD
                exact wp_neqE (.tmp 77) (.tmp 81) _ rfl e77 e81 ((eqv_mf1 c2 hI.out T).trans (decide_eq_false hT1)) (hK _ _ rfl (Below.refl _ _))
              rintro wa hBa hCa _ rfl _ rfl _ rfl _ rfl _ rfl _ rfl
              change Below _ _ _ at hBa
              change wpList _ _ _ _ _ _
              simp only [List.drop_succ_cons, List.drop_zero, Act.put, List.setIfInBounds_toArray, List.set_cons_zero, List.set_cons_succ]
              have hSa := hide (hSx.out.next hBa)
              replace hT1 := hide hT1
              clear hBa hCa hSx hFx
              go_upto_region 12 with fail
              refine region_loc 4 118 [fun v _ => v = vE (mf P n T), fun _ _ => True, fun v _ => v = Value.int IntKind.i64 0, fun _ _ => True]
                [(10, .pointer (some ⟨b10, 0, none⟩))] (fun w' => St w w' [⟨b3, 98, ve (mf P n X)⟩, ⟨b4, 98, ve (0)⟩, ⟨b8, 98, ve (mf P n Z)⟩, ⟨b9, 98, ve (mf P n C)⟩, ⟨b10, 98, ve (mf P n T)⟩, ⟨b11, 98, ve (mf P n R)⟩]) [1] 98 (ve 0) [(3, 1, ve (mf P n T))] (by kernel_rfl) (by kernel_rfl) rfl rfl
                (.cons (factB_eq _) (.cons (fun _ _ _ _ _ _ => trivial) (.cons (factB_eq _) (.cons (fun _ _ _ _ _ _ => trivial) .nil)))) (by kernel_rfl) (fun w' h => hSa.out.next h) (by kernel_rfl) (by exact ⟨rfl, trivial⟩) (by kernel_rfl) (allC ⟨⟨_, _, rfl, rfl, rfl, rfl⟩⟩ allN) (allC (fun _ _ => trivial) allN) (by rfl) (allC ⟨⟨_, 13, 83, 0, rfl, rfl, rfl, rfl, rfl, rfl, by kernel_rfl, by kernel_rfl, fun v w h => h⟩⟩ allN) (allC (fun _ _ => trivial) allN) (show ([3] : List Nat).Nodup by decide) Try.zr98 Try.sz98 (.cons (fun _ _ => ?_) (.cons (fun h _ => absurd h (by decide)) (.cons (fun _ _ => ?_) (.cons (fun _ h => absurd (show true = false from h) (by decide)) .nil)))) ?_
              · refine Obl.plain rfl _ rfl rfl [] (by kernel_rfl) fun a W hF hC hD K hK => ?_
                have c1 := hC
                have e10 : a.tmps.getD 10 undef = .pointer (some ⟨b10, 0, none⟩) := hF.1
                clear hF hD
                exact wpE _ (.tmp 10) rfl (c1.vb 4 _ rfl) e10 Try.underlying98 rfl Try.sz98 (hK _ _ rfl (Below.refl _ _))
              · refine Obl.plain rfl _ rfl rfl [1] (by kernel_rfl) fun a W hF hC hD K hK => ?_
                clear hF hD hC
                go_simp
                exact hK _ _ rfl (Below.refl _ _)
              rintro wb bs hBb hCb hAl hDl hSl _ rfl _ rfl _ rfl _ -
              obtain ⟨hlb13, Lb13, hvb13, hnb13⟩ := hAl 1 (by decide)
              have hsb13 := hSl _ (.head _)
              clear hAl hDl hSl
              change _ ≤ bs 1 at hlb13
              change VB _ (bs 1) _ _ at hsb13
              change wpList _ _ _ _ _ _
              simp only [List.drop_succ_cons, List.drop_zero, Act.put, List.setIfInBounds_toArray, List.set_cons_zero, List.set_cons_succ]
              generalize bs 1 = b13 at *
              clear bs
              have hSb := hide (hSa.out.pushL hBb [⟨b13, 98, ve (mf P n T)⟩] ⟨hlb13, hsb13, (fun d hd => by cases hd), trivial⟩)
              clear hBb hCb hlb13 hsb13 hvb13 hnb13 hSa
              go_wp2_with fail
              go_loopg [12] s (fun g s12 wy => ∃ k : Nat, k + g = s ∧ k + 1 ≤ s ∧ s12 = .int .i64 (k : Int) ∧ (∀ i, i < k → T ^ 2 ^ i % P ≠ 1) ∧ St w wy [⟨b3, 98, ve (mf P n X)⟩, ⟨b4, 98, ve (0)⟩, ⟨b8, 98, ve (mf P n Z)⟩, ⟨b9, 98, ve (mf P n C)⟩, ⟨b10, 98, ve (mf P n T)⟩, ⟨b11, 98, ve (mf P n R)⟩, ⟨b13, 98, ve (mf P n (T ^ 2 ^ k))⟩])
              case atStart => exact ⟨0, by omega, hTS.out.s1, rfl, fun i hi => absurd hi (Nat.not_lt_zero i), by rw [Nat.pow_zero, Nat.pow_one]; exact hSb.out⟩
              case round =>
                obtain ⟨k, hkg, hks, rfl, hne, hSy⟩ := hrel
                obtain ⟨wy, hwy⟩ : ∃ W, W = wr := ⟨_, rfl⟩
                subst hwy
                have hne := hide hne
                have hSy := hide hSy
                have hFy := hide (hF.out.next hSy.out.bl)
                obtain ⟨U, hU⟩ : ∃ U, U = T ^ 2 ^ k := ⟨_, rfl⟩
                rw [← hU] at hSy
                replace hU := hide hU
                clear hSb
                have iwk := wrap_in ((k : Int) + 1) (by omega) (by omega)
                go_upto_region 13 with fail
                by_cases hU1 : U % P = 1
                ·
                  refine region_do 6 118 [fun v _ => v = vE (mf P n U), fun v _ => v = .pointer (some ⟨bm, 0, none⟩), fun v _ => v = .pointer (some ⟨bm, 0, none⟩), fun v _ => v = .pointer (some ⟨bm, 8, none⟩), fun v _ => v = vE (mf P n 1), fun v _ => v = .bool false]
                    [(13, .pointer (some ⟨b13, 0, none⟩)), (0, .pointer (some ⟨bm, 0, none⟩))] (fun w' => St w w' [⟨b3, 98, ve (mf P n X)⟩, ⟨b4, 98, ve (0)⟩, ⟨b8, 98, ve (mf P n Z)⟩, ⟨b9, 98, ve (mf P n C)⟩, ⟨b10, 98, ve (mf P n T)⟩, ⟨b11, 98, ve (mf P n R)⟩, ⟨b13, 98, ve (mf P n U)⟩] ∧ FB w' bm P n) (fun w' => True) 999 none (by kernel_rfl) (by kernel_rfl) rfl rfl
                    (.cons (Fact.eq _) rfl (.cons (Fact.eq _) rfl (.cons (Fact.eq _) rfl (.cons (Fact.eq _) rfl (.cons (Fact.eq _) rfl (.cons (Fact.eq _) rfl (.nil _))))))) (fun w' h => ⟨hSy.out.next h, hFy.out.next h⟩) (fun w' h => trivial) (by kernel_rfl) (by exact ⟨rfl, rfl, trivial⟩) (.cons ?_ (.cons ?_ (.cons ?_ (.cons ?_ (.cons ?_ (.cons ?_ .nil)))))) ?_
                  · refine Obl.plain rfl _ rfl rfl [] (by kernel_rfl) fun a W hF hC hD K hK => ?_
                    obtain ⟨c1, c2⟩ := hC
                    have e13 : a.tmps.getD 13 undef = .pointer (some ⟨b13, 0, none⟩) := hF.1
                    clear hF hD
                    exact wpE _ (.tmp 13) rfl (c1.vb 6 _ rfl) e13 Try.underlying98 rfl Try.sz98 (hK _ _ rfl (Below.refl _ _))
                  · refine Obl.plain rfl _ rfl rfl [] (by kernel_rfl) fun a W hF hC hD K hK => ?_
                    have e0 : a.tmps.getD 0 undef = .pointer (some ⟨bm, 0, none⟩) := hF.2.1
                    clear hF hD hC
                    go_simp
                    exact hK _ _ rfl (Below.refl _ _)
                  · refine Obl.plain rfl _ rfl rfl [1] (by kernel_rfl) fun a W hF hC hD K hK => ?_
                    have e85 : a.tmps.getD 85 undef = .pointer (some ⟨bm, 0, none⟩) := hD.1
                    clear hF hD hC
                    go_simp
                    exact hK _ _ rfl (Below.refl _ _)
                  · refine Obl.plain rfl _ rfl rfl [2] (by kernel_rfl) fun a W hF hC hD K hK => ?_
                    have e86 : a.tmps.getD 86 undef = .pointer (some ⟨bm, 0, none⟩) := hD.1
                    clear hF hD hC
                    go_simp
                    exact hK _ _ rfl (Below.refl _ _)
                  · refine Obl.plain rfl _ rfl rfl [3] (by kernel_rfl) fun a W hF hC hD K hK => ?_
                    obtain ⟨c1, c2⟩ := hC
                    have e87 : a.tmps.getD 87 undef = .pointer (some ⟨bm, 8, none⟩) := hD.1
                    clear hF hD
                    exact wpF (.tmp 87) rfl c2 8 e87 (part_one' P n) (by decide) (hK _ _ rfl (Below.refl _ _))
                  · refine Obl.plain rfl _ rfl rfl [0, 4] (by kernel_rfl) fun a W hF hC hD K hK => ?_
                    obtain ⟨c1, c2⟩ := hC
                    have e84 : a.tmps.getD 84 undef = vE (mf P n U) := hD.1
                    have e88 : a.tmps.getD 88 undef = vE (mf P n 1) := hD.2.1
                    clear hF hD
                    exact wp_neqE (.tmp 84) (.tmp 88) _ rfl e84 e88 ((eqv_mf1 c2 hI.out U).trans (decide_eq_true hU1)) (hK _ _ rfl (Below.refl _ _))
                  rintro wa hBa hCa _ rfl _ rfl _ rfl _ rfl _ rfl _ rfl
                  change Below _ _ _ at hBa
                  change wpList _ _ _ _ _ _
                  simp only [List.drop_succ_cons, List.drop_zero, Act.put, List.setIfInBounds_toArray, List.set_cons_zero, List.set_cons_succ]
                  have hSa := hide (hSy.out.next hBa)
                  have hk1 : 1 ≤ k := by
                    rcases Nat.eq_zero_or_pos k with h | h
                    · exfalso
                      have h1 := hU.out
                      rw [h, Nat.pow_zero, Nat.pow_one] at h1
                      rw [h1] at hU1
                      exact hT1.out hU1
                    · exact h
                  have hst := hide (ts_step hp hTS.out hk1 (by omega) (by rw [← hU.out]; exact hU1) (hne.out (k - 1) (by omega)))
                  have hTo2 := hide (hTo.out.at_step hT1.out hne.out (by rw [← hU.out]; exact hU1))
                  replace hU1 := hide hU1
                  replace hk1 := hide hk1
                  clear hBa hCa hSy hFy iwk
                  have iw1 := wrap_in ((s : Int) - (k : Int)) (by omega) (by omega)
                  have iw2 := wrap_in ((s : Int) - (k : Int) - 1) (by omega) (by omega)
                  have e1 : (s : Int) - (k : Int) - 1 = ((s - k - 1 : Nat) : Int) := by omega
                  obtain ⟨r, hr⟩ : ∃ r, r = s - k - 1 := ⟨_, rfl⟩
                  rw [← hr] at hst e1 hTo2
                  replace hr := hide hr
                  go_wp2_with fail
                  clear iw1 iw2 e1
                  go_loopg [99] r (fun g s99 wz => ∃ i : Nat, i + g = r ∧ s99 = .int .i64 (i : Int) ∧ St w wz [⟨b3, 98, ve (mf P n X)⟩, ⟨b4, 98, ve (0)⟩, ⟨b8, 98, ve (mf P n Z)⟩, ⟨b9, 98, ve (mf P n (C ^ 2 ^ i))⟩, ⟨b10, 98, ve (mf P n T)⟩, ⟨b11, 98, ve (mf P n R)⟩, ⟨b13, 98, ve (mf P n U)⟩])
                  case atStart => exact ⟨0, by omega, rfl, by rw [Nat.pow_zero, Nat.pow_one]; exact hSa.out⟩
                  case round =>
                    obtain ⟨i, hig, rfl, hSz⟩ := hrel
                    obtain ⟨wz, hwz⟩ : ∃ W, W = wr := ⟨_, rfl⟩
                    subst hwz
                    have hSz := hide hSz
                    have hFz := hide (hF.out.next hSz.out.bl)
                    clear hSa
                    by_cases hlt : i < r
                    · have e2 := pow_two_succ C i
                      generalize C ^ 2 ^ i = D at *
                      replace e2 := hide e2
                      have iwi := wrap_in ((i : Int) + 1) (by omega) (by have := hr.out; omega)
                      go_wp2_with (first
                        | ((with_reducible refine loadSE (o := ⟨some 102, _, _, _, _, _⟩) ?_ (.tmp 9) ?_ hSz.out 3 (c := ⟨b9, 98, ve (mf P n D)⟩) ?_ ?_ (mf P n D) ?_ ?_); rfl; rfl; rfl; rfl; rfl)
                        | (go_at_call 127; refine (msquare_c bm P n D wz hFz.out hI.out).mono ?_; rintro e wa ⟨rfl, hba⟩; have hSa := hide (hSz.out.next hba); clear hba)
                        | ((with_reducible refine storeWS (n := 6) (o := ⟨none, _, _, _, _, _⟩) ?_ 98 (.tmp 9) (.tmp 103) ?_ hSa.out 3 (c := ⟨b9, 98, ve (mf P n D)⟩) ?_ ?_ (ve (mf P n (D * D))) ?_ ?_ ?_ ?_ Try.sz98 ?_); rfl; rfl; rfl; rfl; rfl; rfl; rfl; rfl; intro wb hSc hO; replace hSc : Hid (St w wb [⟨b3, 98, ve (mf P n X)⟩, ⟨b4, 98, ve (0)⟩, ⟨b8, 98, ve (mf P n Z)⟩, ⟨b9, 98, ve (mf P n (D * D))⟩, ⟨b10, 98, ve (mf P n T)⟩, ⟨b11, 98, ve (mf P n R)⟩, ⟨b13, 98, ve (mf P n U)⟩]) := hSc))
                      go_roundg (gk - 1)
                      case measure => omega
                      case rel => exact ⟨i + 1, by omega, by simp, by rw [e2.out]; exact hSc.out⟩
                    · obtain rfl : i = r := by omega
                      generalize C ^ 2 ^ i = D at *
                      go_wp2_with (first
                        | ((with_reducible refine loadSE (o := ⟨some 107, _, _, _, _, _⟩) ?_ (.tmp 11) ?_ hSz.out 5 (c := ⟨b11, 98, ve (mf P n R)⟩) ?_ ?_ (mf P n R) ?_ ?_); rfl; rfl; rfl; rfl; rfl)
                        | ((with_reducible refine loadSE (o := ⟨some 108, _, _, _, _, _⟩) ?_ (.tmp 9) ?_ hSz.out 3 (c := ⟨b9, 98, ve (mf P n D)⟩) ?_ ?_ (mf P n D) ?_ ?_); rfl; rfl; rfl; rfl; rfl)
                        | (go_at_call 70; refine (mmul_c bm P n T (D * D) we hFe.out hI.out).mono ?_; rintro e wf ⟨rfl, hbf⟩; have hSf := hide (hSe.out.next hbf); clear hbf)
                        | (go_at_call 70; refine (mmul_c bm P n R D wz hFz.out hI.out).mono ?_; rintro e wa ⟨rfl, hba⟩; have hSa := hide (hSz.out.next hba); clear hba)
                        | ((with_reducible refine storeWS (n := 6) (o := ⟨none, _, _, _, _, _⟩) ?_ 98 (.tmp 11) (.tmp 109) ?_ hSa.out 5 (c := ⟨b11, 98, ve (mf P n R)⟩) ?_ ?_ (ve (mf P n (R * D))) ?_ ?_ ?_ ?_ Try.sz98 ?_); rfl; rfl; rfl; rfl; rfl; rfl; rfl; rfl; intro wb hSc hO; replace hSc : Hid (St w wb [⟨b3, 98, ve (mf P n X)⟩, ⟨b4, 98, ve (0)⟩, ⟨b8, 98, ve (mf P n Z)⟩, ⟨b9, 98, ve (mf P n D)⟩, ⟨b10, 98, ve (mf P n T)⟩, ⟨b11, 98, ve (mf P n (R * D))⟩, ⟨b13, 98, ve (mf P n U)⟩]) := hSc)
                        | ((with_reducible refine loadSE (o := ⟨some 111, _, _, _, _, _⟩) ?_ (.tmp 9) ?_ hSc.out 3 (c := ⟨b9, 98, ve (mf P n D)⟩) ?_ ?_ (mf P n D) ?_ ?_); rfl; rfl; rfl; rfl; rfl)
                        | (go_at_call 127; refine (msquare_c bm P n D wb (hF.out.next hSc.out.bl) hI.out).mono ?_; rintro e wd ⟨rfl, hbd⟩; have hSd := hide (hSc.out.next hbd); clear hbd)
                        | ((with_reducible refine storeWS (n := 6) (o := ⟨none, _, _, _, _, _⟩) ?_ 98 (.tmp 9) (.tmp 112) ?_ hSd.out 3 (c := ⟨b9, 98, ve (mf P n D)⟩) ?_ ?_ (ve (mf P n (D * D))) ?_ ?_ ?_ ?_ Try.sz98 ?_); rfl; rfl; rfl; rfl; rfl; rfl; rfl; rfl; intro we hSe hO; have hFe := hide (hF.out.next hSe.bl); replace hSe : Hid (St w we [⟨b3, 98, ve (mf P n X)⟩, ⟨b4, 98, ve (0)⟩, ⟨b8, 98, ve (mf P n Z)⟩, ⟨b9, 98, ve (mf P n (D * D))⟩, ⟨b10, 98, ve (mf P n T)⟩, ⟨b11, 98, ve (mf P n (R * D))⟩, ⟨b13, 98, ve (mf P n U)⟩]) := hSe)
                        | ((with_reducible refine loadSE (o := ⟨some 114, _, _, _, _, _⟩) ?_ (.tmp 10) ?_ hSe.out 4 (c := ⟨b10, 98, ve (mf P n T)⟩) ?_ ?_ (mf P n T) ?_ ?_); rfl; rfl; rfl; rfl; rfl)
                        | ((with_reducible refine loadSE (o := ⟨some 115, _, _, _, _, _⟩) ?_ (.tmp 9) ?_ hSe.out 3 (c := ⟨b9, 98, ve (mf P n (D * D))⟩) ?_ ?_ (mf P n (D * D)) ?_ ?_); rfl; rfl; rfl; rfl; rfl)
                        | ((with_reducible refine storeWS (n := 6) (o := ⟨none, _, _, _, _, _⟩) ?_ 98 (.tmp 10) (.tmp 116) ?_ hSf.out 4 (c := ⟨b10, 98, ve (mf P n T)⟩) ?_ ?_ (ve (mf P n (T * (D * D)))) ?_ ?_ ?_ ?_ Try.sz98 ?_); rfl; rfl; rfl; rfl; rfl; rfl; rfl; rfl; intro wg hSg hO; replace hSg : Hid (St w wg [⟨b3, 98, ve (mf P n X)⟩, ⟨b4, 98, ve (0)⟩, ⟨b8, 98, ve (mf P n Z)⟩, ⟨b9, 98, ve (mf P n (D * D))⟩, ⟨b10, 98, ve (mf P n (T * (D * D)))⟩, ⟨b11, 98, ve (mf P n (R * D))⟩, ⟨b13, 98, ve (mf P n U)⟩]) := hSg))
                      go_roundg k
                      case measure => omega
                      case rel => exact ⟨R * D, D * D, T * (D * D), rfl, by omega, hst.out, hTo2.out, hSg.out.take 6⟩
                ·
                  refine region_do 6 118 [fun v _ => v = vE (mf P n U), fun v _ => v = .pointer (some ⟨bm, 0, none⟩), fun v _ => v = .pointer (some ⟨bm, 0, none⟩), fun v _ => v = .pointer (some ⟨bm, 8, none⟩), fun v _ => v = vE (mf P n 1), fun v _ => v = .bool true]
                    [(13, .pointer (some ⟨b13, 0, none⟩)), (0, .pointer (some ⟨bm, 0, none⟩))] (fun w' => St w w' [⟨b3, 98, ve (mf P n X)⟩, ⟨b4, 98, ve (0)⟩, ⟨b8, 98, ve (mf P n Z)⟩, ⟨b9, 98, ve (mf P n C)⟩, ⟨b10, 98, ve (mf P n T)⟩, ⟨b11, 98, ve (mf P n R)⟩, ⟨b13, 98, ve (mf P n U)⟩] ∧ FB w' bm P n) (fun w' => True) 999 none (by kernel_rfl) (by kernel_rfl) rfl rfl
                    (.cons (Fact.eq _) rfl (.cons (Fact.eq _) rfl (.cons (Fact.eq _) rfl (.cons (Fact.eq _) rfl (.cons (Fact.eq _) rfl (.cons (Fact.eq _) rfl (.nil _))))))) (fun w' h => ⟨hSy.out.next h, hFy.out.next h⟩) (fun w' h => trivial) (by kernel_rfl) (by exact ⟨rfl, rfl, trivial⟩) (.cons ?_ (.cons ?_ (.cons ?_ (.cons ?_ (.cons ?_ (.cons ?_ .nil)))))) ?_
                  · refine Obl.plain rfl _ rfl rfl [] (by kernel_rfl) fun a W hF hC hD K hK => ?_
                    obtain ⟨c1, c2⟩ := hC
                    have e13 : a.tmps.getD 13 undef = .pointer (some ⟨b13, 0, none⟩) := hF.1
                    clear hF hD
                    exact wpE _ (.tmp 13) rfl (c1.vb 6 _ rfl) e13 Try.underlying98 rfl Try.sz98 (hK _ _ rfl (Below.refl _ _))
                  · refine Obl.plain rfl _ rfl rfl [] (by kernel_rfl) fun a W hF hC hD K hK => ?_
                    have e0 : a.tmps.getD 0 undef = .pointer (some ⟨bm, 0, none⟩) := hF.2.1
                    clear hF hD hC
                    go_simp
                    exact hK _ _ rfl (Below.refl _ _)
                  · refine Obl.plain rfl _ rfl rfl [1] (by kernel_rfl) fun a W hF hC hD K hK => ?_
                    have e85 : a.tmps.getD 85 undef = .pointer (some ⟨bm, 0, none⟩) := hD.1
                    clear hF hD hC
                    go_simp
                    exact hK _ _ rfl (Below.refl _ _)
                  · refine Obl.plain rfl _ rfl rfl [2] (by kernel_rfl) fun a W hF hC hD K hK => ?_
                    have e86 : a.tmps.getD 86 undef = .pointer (some ⟨bm, 0, none⟩) := hD.1
                    clear hF hD hC
                    go_simp
                    exact hK _ _ rfl (Below.refl _ _)
                  · refine Obl.plain rfl _ rfl rfl [3] (by kernel_rfl) fun a W hF hC hD K hK => ?_
                    obtain ⟨c1, c2⟩ := hC
                    have e87 : a.tmps.getD 87 undef = .pointer (some ⟨bm, 8, none⟩) := hD.1
                    clear hF hD
                    exact wpF (.tmp 87) rfl c2 8 e87 (part_one' P n) (by decide) (hK _ _ rfl (Below.refl _ _))
                  · refine Obl.plain rfl _ rfl rfl [0, 4] (by kernel_rfl) fun a W hF hC hD K hK => ?_
                    obtain ⟨c1, c2⟩ := hC
                    have e84 : a.tmps.getD 84 undef = vE (mf P n U) := hD.1
                    have e88 : a.tmps.getD 88 undef = vE (mf P n 1) := hD.2.1
                    clear hF hD
                    exact wp_neqE (.tmp 84) (.tmp 88) _ rfl e84 e88 ((eqv_mf1 c2 hI.out U).trans (decide_eq_false hU1)) (hK _ _ rfl (Below.refl _ _))
                  rintro wa hBa hCa _ rfl _ rfl _ rfl _ rfl _ rfl _ rfl
                  change Below _ _ _ at hBa
                  change wpList _ _ _ _ _ _
                  simp only [List.drop_succ_cons, List.drop_zero, Act.put, List.setIfInBounds_toArray, List.set_cons_zero, List.set_cons_succ]
                  have hSa := hide (hSy.out.next hBa)
                  have hFa := hide (hF.out.next hSa.out.bl)
                  have hk1 : k + 1 < s := by
                    rcases Nat.lt_or_ge (k + 1) s with h | h
                    · exact h
                    · exfalso
                      have h1 := hTS.out.tt
                      rw [show s - 1 = k by omega, ← hU.out] at h1
                      exact hU1 h1
                  have e2 := hide (pow_two_succ T k)
                  rw [← hU.out] at e2
                  have hU1 := hide hU1
                  clear hBa hCa hSy hFy
                  go_wp2_with (first
                    | ((with_reducible refine loadSE (o := ⟨some 93, _, _, _, _, _⟩) ?_ (.tmp 13) ?_ hSa.out 6 (c := ⟨b13, 98, ve (mf P n U)⟩) ?_ ?_ (mf P n U) ?_ ?_); rfl; rfl; rfl; rfl; rfl)
                    | (go_at_call 127; refine (msquare_c bm P n U wa hFa.out hI.out).mono ?_; rintro e wb ⟨rfl, hbb⟩; have hSb := hide (hSa.out.next hbb); clear hbb)
                    | ((with_reducible refine storeWS (n := 6) (o := ⟨none, _, _, _, _, _⟩) ?_ 98 (.tmp 13) (.tmp 94) ?_ hSb.out 6 (c := ⟨b13, 98, ve (mf P n U)⟩) ?_ ?_ (ve (mf P n (U * U))) ?_ ?_ ?_ ?_ Try.sz98 ?_); rfl; rfl; rfl; rfl; rfl; rfl; rfl; rfl; intro wc hSc hO; replace hSc : Hid (St w wc [⟨b3, 98, ve (mf P n X)⟩, ⟨b4, 98, ve (0)⟩, ⟨b8, 98, ve (mf P n Z)⟩, ⟨b9, 98, ve (mf P n C)⟩, ⟨b10, 98, ve (mf P n T)⟩, ⟨b11, 98, ve (mf P n R)⟩, ⟨b13, 98, ve (mf P n (U * U))⟩]) := hSc))
                  go_roundg (gk - 1)
                  case measure => omega
                  case rel =>
                    refine ⟨k + 1, by omega, by omega, by simp, fun i hi => ?_, by rw [e2.out]; exact hSc.out⟩
                    rcases Nat.lt_or_ge i k with h | h
                    · exact hne.out i h
                    · rw [show i = k by omega, ← hU.out]; exact hU1.out

theorem sqk_of {P X : Nat} (hP2 : 1 < P) (hp : NT.Prime P) (h0 : X % P ≠ 0) : sqk P X = sqB P X := by
  unfold sqk sqB
  have h1 : X ^ ((P - 1) / 2) % P ≠ 0 := euler_ne0 hp h0 _
  by_cases h : X ^ ((P - 1) / 2) % P = 1
  · rw [decide_eq_true h, decide_eq_true (.inr h)]; rfl
  · rw [decide_eq_false h, decide_eq_false h1, decide_eq_false (fun h' => h'.elim h0 h)]; rfl
/-- a root, or 0, whatever the run. -/
theorem msqrt_c {P X Z0 : Nat} (hI : InvOk P) (hp : NT.Prime P) (hodd : P % 2 = 1) (hZ2 : 2 ≤ Z0) (hZ0 : sqB P Z0 = false) :
    ∃ R, RootOk P X R ∧ ∀ (bm n : Nat) (w : World), FB w bm P n → Calls Try.prog 79 #[.pointer (some ⟨bm, 0, none⟩), vE (mf P n X)] w fun e w' => e = .returned (.tuple #[vE (mf P n R), .bool (sqk P X)]) ∧ Below w.heap.size w w' := by
  have hP1 := hp.1
  by_cases h0 : X % P = 0
  · have hk : sqk P X = true := decide_eq_true (.inl h0)
    refine ⟨0, ⟨fun _ => by rw [h0, Nat.mul_zero, Nat.zero_mod], fun h => absurd (hk.symm.trans h) (by decide)⟩, fun bm n w hF => ?_⟩
    have := msqrt_none bm P n X w hF hI (.inl h0)
    rw [decide_eq_true h0] at this
    rw [hk, mf_zero]
    exact this
  · have hk := sqk_of hP1 hp h0
    by_cases h1 : sqB P X = true
    · have h2 : X ^ ((P - 1) / 2) % P = 1 := by
        unfold sqB at h1
        rw [Bool.or_eq_true, decide_eq_true_iff, decide_eq_true_iff] at h1
        exact h1.resolve_right (euler_ne0 hp h0 _)
      obtain ⟨Zm, hz1, hz2, hz3⟩ := least_of (p := fun i => 2 ≤ i ∧ sqB P i = false) ⟨hZ2, hZ0⟩
      obtain ⟨t0, o0, he, ho⟩ := odd_part_ex (P - 1) (by omega)
      have ht1 : 1 ≤ t0 := by
        rcases Nat.eq_zero_or_pos t0 with h | h
        · subst h
          rw [Nat.pow_zero, Nat.one_mul] at he
          omega
        · exact h
      have hZp : Zm ^ ((P - 1) / 2) % P = P - 1 := by
        have h1 := hz2.2
        unfold sqB at h1
        rw [Bool.or_eq_false_iff, decide_eq_false_iff_not, decide_eq_false_iff_not] at h1
        exact no_square hp hodd h1.1 h1.2 (by omega)
      obtain ⟨Rf, hT, hR⟩ := ts_to hp (ts_start (X := X) ht1 he ho h2 hZp)
      refine ⟨Rf, ⟨fun _ => hR, fun h => absurd ((hk.trans h1).symm.trans h) (by decide)⟩, fun bm n w hF => ?_⟩
      rw [hk, h1]
      exact msqrt_some bm P n X Zm t0 o0 Rf w hF hI hp hodd h0 h2 hz2.1 hz2.2 (fun i h3 h4 => by
        cases h5 : sqB P i with
        | true => rfl
        | false => exact absurd ⟨h3, h5⟩ (hz3 i h4)) he ho hT
    · have h1' : sqB P X = false := by cases h : sqB P X with
        | true => exact absurd h h1
        | false => rfl
      refine ⟨0, ⟨fun h => absurd ((hk.trans h1').symm.trans h) (by decide), fun _ => rfl⟩, fun bm n w hF => ?_⟩
      have := msqrt_none bm P n X w hF hI (.inr h1')
      rw [decide_eq_false h0] at this
      rw [hk, h1', mf_zero]
      exact this

end Go.Proofs.Ytincemkjdgbnnaa
