/- Walks: FieldCodes. -/
import Derived.Test.YtincemkjdgbnnaaLawG
import Derived.Test.YtincemkjdgbnnaaCodA
import Derived.Laws.IdiomStrings
import Derived.Lib.BufferRead
import Derived.Deep.Cut
set_option linter.unusedVariables false
set_option linter.unusedSimpArgs false
namespace Go.Proofs.Ytincemkjdgbnnaa
open Go.RowKit Lm

/-- bytes as a string. -/
def strOf (l : List Nat) : ByteArray := ⟨(l.map UInt8.ofNat).toArray⟩
theorem conv_str {w : World} {A : Option Addr} {l : List Nat} (c : Nat) (h : Rd w .u8 A l) (hok : Ok 256 l) :
    (convert 25 9 (.slice A l.length c)).run Try.prog w = .ok (.string (strOf l)) w := by
  cases hl : l with
  | nil =>
    subst hl
    cases A with
    | none => exact Lib.run_convert_nil_bytes (P := Try.prog) w 25 9 5 c Try.underlying25 Try.underlying5 (by kernel_rfl)
    | some a => exact run_convert_bytes_back (P := Try.prog) w 25 9 5 a c [] Try.underlying25 Try.underlying5 (by kernel_rfl) (fun j hj => absurd hj (by simp))
  | cons x r =>
    rw [← hl]
    obtain ⟨b, off, rfl, hrow⟩ := h (by rw [hl]; simp)
    have := run_convert_bytes_back (P := Try.prog) w 25 9 5 ⟨b, off, none⟩ c (l.map UInt8.ofNat) Try.underlying25 Try.underlying5 (by kernel_rfl) (fun j hj => by
      have hj' : j < l.length := by simpa using hj
      rw [add_off, hrow j hj', nth_of_lt hj', List.getElem_map]
      have h2 := hok.get hj'
      congr 2
      exact congrArg (fun n : Nat => (n : Int)) (UInt8.toNat_ofNat_of_lt' (by simpa using h2)).symm)
    rw [List.length_map] at this
    exact this

section
variable {o : Oper} {a : Act} {w : World} {Q : Exit → Act → World → Prop} {K : Act → World → Prop}
theorem wp_str (x : Operand) (ho : o.op = .convert 25 9 x) {A : Option Addr} {l : List Nat} {c : Nat} (hx : a.eval x = .slice A l.length c) (h : Rd w .u8 A l) (hok : Ok 256 l) (hk : K (a.put o.dst (.string (strOf l))) w) : o.wp Try.prog a w K Q := by
  unfold Oper.wp execOp
  simp only [ho, hx, Sem.run_bind, conv_str c h hok, Result.andThen_ok, Sem.run_pure]
  exact hk
theorem wp_neqS (x y : Operand) (z : TypeId) (ho : o.op = .binOp .neq 9 x y z) {s : ByteArray} (hx : a.eval x = .string s) (hy : a.eval y = .string s) (h : K (a.put o.dst (.bool false)) w) : o.wp Try.prog a w K Q := by
  unfold Oper.wp execOp
  simp only [ho, hx, hy]
  go_simp
  exact h
theorem wp_eqlS (x y : Operand) (z : TypeId) (ho : o.op = .binOp .eql 9 x y z) {s : ByteArray} (hx : a.eval x = .string s) (hy : a.eval y = .string s) (h : K (a.put o.dst (.bool true)) w) : o.wp Try.prog a w K Q := by
  unfold Oper.wp execOp
  simp only [ho, hx, hy]
  go_simp
  exact h
end

section
variable {ops : Array Oper} {rest : List Oper} {o : Oper} {a : Act} {w : World} {Q : Exit → Act → World → Prop}
/-- an operation behind a guard that holds, in a region without a draw. -/
theorem wpList_want {P : Program} (hw : Region.wanted o (yielded ops a.tmps) = true) (h : ∀ K : Act → World → Prop, (∀ a w, wpList P ops Q rest a w → K a w) → o.wp P a w K Q) : wpList P ops Q (o :: rest) a w :=
  wpList_step fun K hK => by simp only [hw, if_true]; exact h K hK
theorem loadTG (ty : TypeId) (hw : Region.wanted o (yielded ops a.tmps) = true) (x : Operand) (ho : o.op = .load ty x) {b v : Nat} {t : TypeId} (hx : a.eval x = .pointer (some ⟨b, 0, none⟩)) (hv : VB w b t (ve v)) {d : TypeDesc} (hu : Try.prog.underlying ty = some d) (hd : d.isRow = true)
    (hi : (Try.prog.info? ty).map (·.size) = some 6) (h : wpList Try.prog ops Q rest (a.put o.dst (vE v)) w) : wpList Try.prog ops Q (o :: rest) a w :=
  wpList_want hw fun K hK => wpE ty x ho hv hx hu hd hi (hK _ _ h)
theorem askL (hgd : o.guard = none) (x : Operand) (ho : o.op = .load 24 x) {bb : Nat} {t : TypeId} {L : List Value} (hF : VB w bb t L) {off : Nat} (hx : a.eval x = .pointer (some ⟨bb, off, none⟩)) {v : Nat} (hv : (L.drop off).take 6 = ve v)
    (h : wpList Try.prog ops Q rest (a.put o.dst (vE v)) w) : wpList Try.prog ops Q (o :: rest) a w :=
  wpList_plain hgd fun K hK => wpAsk x ho hF off hx hv (hK _ _ h)
end

theorem kP_sz {k : Int} (hk : isKind k) : kP k ≤ 256 ^ ksz k ∧ ksz k ≤ 48 := by
  rcases hk with rfl | rfl | rfl | rfl | rfl | rfl <;> exact ⟨of_decide_eq_true (by kernel_rfl), by decide⟩

set_option maxRecDepth 100000 in
set_option maxHeartbeats 6400000 in
theorem codes_c (k : Int) (x y z : Nat) (s : Value) (R : Option Addr) (cr : Nat) (l : List Nat) (w : World) (hk : isKind k) (ha : x < B64 ^ 6) (hr : Rd w .u8 R l) (hle : l.length ≤ cr) (hok : Ok 256 l) :
    Calls Try.prog 4 #[.agg (askCells k x y z s).toArray, .slice R l.length cr] w fun e w' => e = .returned (.bool true) ∧ Below w.heap.size w w' := by
  have Hboth := hide (fun W => both_c k W hk)
  have Ha := hide ha
  have HE := hide hr
  have Hle := hide hle
  have hP32 : kP k < B32 ^ 12 := by have := (kok hk).lt; have h6 := (kok hk).n6; exact Nat.lt_of_lt_of_le this (by rw [show B32 ^ 12 = B64 ^ 6 from rfl]; exact Nat.pow_le_pow_right B64_pos h6)
  have HP32 := hide hP32
  have HPl := hide (b32len hP32)
  have HPs := hide (kP_sz hk).1
  have Hs48 := hide (kP_sz hk).2
  have HXl := hide (b32len (n := x) (k := 12) (by rw [show B32 ^ 12 = B64 ^ 6 from rfl]; exact ha))
  clear hP32
  generalize kP k = P at *
  generalize kn k = n at *
  generalize ksz k = sz at *
  clear ha hk hr hle
  obtain ⟨le, hle⟩ : ∃ le, le = l.take 100 := ⟨_, rfl⟩
  have hle100 : le.length ≤ 100 := by rw [hle, List.length_take]; omega
  have okE : Ok 256 le := by rw [hle]; exact hok.take 100
  have Htwin := hide (fun W h => twin_any R cr 100 l W h Hle.out (by decide))
  rw [← hle] at Htwin
  have Hle100 := hide hle100
  have OkE := hide okE
  have htk : Hid (le.take 100 = le) := hide (List.take_of_length_le hle100)
  replace hle := hide hle
  clear okE hok
  go_enter Try.func4, Try.ntmps4
  go_upto_region 5 with (first
    | ((with_reducible refine wpList_box (o := ⟨some 2, _, _, _, _, _⟩) ?_ 27 (.tmp 0) ?_ (askCells k x y z s) ?_ ?_); rfl; rfl; rfl; intro w1 b1 h1 hv1 h3 h4; have hn1 : New w w1 b1 := ⟨by rw [h1]; exact Nat.le_refl _, by rw [h4]; omega, h3⟩; have r0 : w1.cell? ⟨b1, 0, none⟩ = some (.int .i64 k) := hv1.cell 0; clear h1 h3 h4; replace hv1 := hide hv1; replace hn1 := hide hn1)
    | (go_at_call 12; refine (Hboth.out w1).mono ?_; rintro e w2 ⟨bf, bm, A, cp, rfl, hF, hcp, hr, hB2⟩; replace hF := hide hF; replace hr := hide hr; replace hcp := hide hcp; replace hB2 := hide hB2)
    | ((with_reducible refine wpList_alloc (o := ⟨some 6, _, _, _, _, _⟩) ?_ 32 ?_ [.slice none 0 0, .int .i64 0] Try.zrF ?_); rfl; rfl; intro w4 b4 h1 hv4 h3 h4; have hn4 : New w2 w4 b4 := ⟨by rw [h1]; exact Nat.le_refl _, by rw [h4]; omega, h3⟩; clear h1 h3 h4; replace hn4 := hide hn4)
    | ((with_reducible refine wpList_storeW (o := ⟨none, _, _, _, _, _⟩) ?_ 32 (.tmp 6) (.tmp 20) ?_ ?_ hv4 (vF A P cp sz) ?_ (szVF _ _ _ _) ?_ ?_ ?_); rfl; rfl; rfl; rfl; rfl; rfl; intro w5 hv5 ho5; replace ho5 := hide ho5; replace hv5 := hide hv5; have HE5 := HE.out.below (Only.below (below_next (below_next hn1.out.bl hB2.out) hn4.out.bl) ho5.out (Nat.le_trans hn1.out.lo (Nat.le_of_lt (Nat.lt_of_lt_of_le hn1.out.hi (Nat.le_trans hB2.out.size hn4.out.lo))))); replace HE5 := hide HE5)
    | (go_at_call 14; refine (Htwin.out w5 HE5.out).mono ?_; rintro e w6 ⟨A9, c9, rfl, hc9, hr9, hb6⟩; replace hc9 := hide hc9; replace hr9 := hide hr9; replace hb6 := hide hb6))
  clear r0
  have hb14 : b1 < b4 := Nat.lt_of_lt_of_le hn1.out.hi (Nat.le_trans hB2.out.size hn4.out.lo)
  have hB4 := below_next (below_next hn1.out.bl hB2.out) hn4.out.bl
  have HB5 := Only.below hB4 ho5.out (Nat.le_trans hn1.out.lo (Nat.le_of_lt hb14))
  have HB6 := hide (below_next HB5 hb6.out)
  have HV6 := hide ((ho5.out.vb ((hv1.out.next hB2.out).next hn4.out.bl) (Nat.ne_of_lt hb14)).next hb6.out)
  have hF4 := hF.out.next hn4.out.bl
  have HF6 := hide ((hF4.only ho5.out (Nat.ne_of_lt (Nat.lt_of_lt_of_le hF.out.vb.lt hn4.out.lo)) (Nat.ne_of_lt (Nat.lt_of_lt_of_le hF.out.fb.vb.lt hn4.out.lo))).next hb6.out)
  have HR6 := hide (((((hr.out.toB).next hn4.out.bl).only ho5.out hn4.out.lo).rd).below hb6.out)
  have HS6 := hide (hv5.out.next hb6.out)
  clear hv4 hb14 hF4 hn1 hn4 hB2 hF hv1 hr hv5 ho5 hB4 Hboth HE HB5 HE5 hb6 Htwin
  have Htw := hide (fun W h => twin_any A9 c9 100 le W h hc9.out (by decide))
  rw [htk.out] at Htw
  obtain ⟨dv, hdv⟩ : ∃ v, v = decV P sz le := ⟨_, rfl⟩
  obtain ⟨de, hde⟩ : ∃ v, v = decE P sz le := ⟨_, rfl⟩
  have Hdec := hide (fun A1 c1 W h1 h2 h3 => fdec_c bf bm P n sz A1 c1 le W h1 h2 h3 (Nat.le_trans Hle100.out (by decide)) OkE.out Hs48.out)
  rw [← hdv, ← hde] at Hdec
  replace hdv := hide hdv
  replace hde := hide hde
  go_upto_block 0 with (first
    | (go_at_call 20; refine (Hdec.out A7 c7 w7 (HF6.out.next hb7.out) hr7.out hc7.out).mono ?_; rintro e w8 ⟨rfl, hb8⟩; replace hb8 := hide hb8)
    | (go_at_call 14; refine (Htw.out w6 hr9.out).mono ?_; rintro e w7 ⟨A7, c7, rfl, hc7, hr7, hb7⟩; replace hc7 := hide hc7; replace hr7 := hide hr7; replace hb7 := hide hb7)
    | ((with_reducible refine allocT 24 (o := ⟨some 10, _, _, _, _, _⟩) ?_ ?_ Try.zr24 ?_); rfl; rfl; intro w9 b9 hv9 hn9; replace hn9 := hide hn9)
    | ((with_reducible refine storeT 24 (v' := dv) (o := ⟨none, _, _, _, _, _⟩) ?_ (.tmp 10) (.tmp 33) ?_ ?_ ?_ hv9 Try.sz24 ?_); rfl; rfl; rfl; rfl; intro w10 hv10 ho10))
  have hB79 := below_next (below_next hb7.out hb8.out) hn9.out.bl
  have HB10 := hide (Only.below (below_next HB6.out hB79) ho10.out (Nat.le_trans HB6.out.size (Nat.le_trans (below_next hb7.out hb8.out).size hn9.out.lo)))
  have hlo9 := hide (Nat.le_trans (below_next hb7.out hb8.out).size hn9.out.lo)
  have HV10 := hide (ho10.out.vb (HV6.out.next hB79) (Nat.ne_of_lt (Nat.lt_of_lt_of_le HV6.out.lt hlo9.out)))
  have HS10 := hide (ho10.out.vb (HS6.out.next hB79) (Nat.ne_of_lt (Nat.lt_of_lt_of_le HS6.out.lt hlo9.out)))
  have HF10 := hide ((HF6.out.next hB79).only ho10.out (Nat.ne_of_lt (Nat.lt_of_lt_of_le HF6.out.vb.lt hlo9.out)) (Nat.ne_of_lt (Nat.lt_of_lt_of_le HF6.out.fb.vb.lt hlo9.out)))
  have HR10 := hide (((HR6.out.toB.next hB79).only ho10.out hlo9.out).rd)
  have HE10 := hide (((hr9.out.toB.next hB79).only ho10.out hlo9.out).rd)
  have HD10 := hide hv10
  have r57 : w10.cell? ⟨b4, 1, none⟩ = some (.int .i64 (sz : Int)) := HS10.out.cell 1
  clear hv9 hn9 ho10 hb7 hb8 hB79 hv10 HB6 HV6 HF6 HR6 HS6 hr9 hr7 Hdec Htw hlo9
  go_cut [] from 15 (fun wx => Below w10.heap.size w10 wx)
  case first =>
    by_cases hl : le.length = sz
    · have hd : ((le.length : Int) == (sz : Int)) = true := by rw [hl]; simp
      have hdV : dv = if be le < P then be le else 0 := by rw [hdv.out]; unfold decV; simp [hl]
      have hdE : de = if be le < P then 0 else 3 := by rw [hde.out]; unfold decE; rw [if_pos hl]
      have hfb := hide (fillb_be OkE.out)
      rw [hl] at hfb
      have Hl := hide hl
      have HEp : Hid (∀ A1 c1 W, Rd W .u8 A1 le → le.length ≤ c1 → Calls Try.prog 16 #[.slice A1 le.length c1] W (RetSl W .u32 (digs B32 (be le)))) := hide fun A1 c1 W h1 h2 => nfrom_any A1 c1 le W h1 h2 (Nat.le_trans Hle100.out (by decide)) OkE.out
      have hNl := hide (b32len (n := be le) (k := 25) (Nat.lt_of_lt_of_le (be_ok_lt OkE.out hle100) (by decide +kernel)))
      clear hl
      obtain ⟨N, hN⟩ : ∃ N, N = be le := ⟨_, rfl⟩
      rw [← hN] at hdV hdE hfb HEp hNl
      replace hN := hide hN
      have Hd1 := hide hdV
      have Hd2 := hide hdE
      clear hdV hdE
      go_upto_region 11 with fail
      refine region_do 7 123 [fun v _ => v = .slice A9 le.length c9, fun v w => SlIs .u32 (digs B32 N) v w, fun v _ => v = .pointer (some ⟨b4, 0, none⟩), fun v _ => v = .slice A (digs B32 P).length cp, fun v _ => v = .int .i64 (cmpI N P), fun v _ => v = .bool (decide (0 ≤ cmpI N P)), fun v _ => v = .bool (decide (0 ≤ cmpI N P))]
        [(9, .slice A9 le.length c9), (6, .pointer (some ⟨b4, 0, none⟩))] (fun w' => VB w' b4 32 (vF A P cp sz) ∧ Rd w' .u32 A (digs B32 P) ∧ Rd w' .u8 A9 le) (fun w' => True) 999 none (by kernel_rfl) (by kernel_rfl) rfl rfl
        (.cons (Fact.eq _) rfl (.cons (SlIs.st) rfl (.cons (Fact.eq _) rfl (.cons (Fact.eq _) rfl (.cons (Fact.eq _) rfl (.cons (Fact.eq _) rfl (.cons (Fact.eq _) rfl (.nil _)))))))) (fun w' h => ⟨HS10.out.next h, HR10.out.below h, HE10.out.below h⟩) (fun w' h => trivial) (by kernel_rfl) ⟨rfl, rfl, trivial⟩ (.cons ?_ (.cons ?_ (.cons ?_ (.cons ?_ (.cons ?_ (.cons ?_ (.cons ?_ .nil))))))) ?_
      · refine Obl.plain rfl _ rfl rfl [] (by kernel_rfl) fun a W hF hC hD K hK => ?_
        have e9 : a.tmps.getD 9 undef = .slice A9 le.length c9 := hF.1
        clear hF hD hC
        go_simp
        exact hK _ _ rfl (Below.refl _ _)
      · refine Obl.plain rfl _ rfl rfl [0] (by kernel_rfl) fun a W hF hC hD K hK => ?_
        obtain ⟨c1, c2, c3⟩ := hC
        have e67 : a.tmps.getD 67 undef = .slice A9 le.length c9 := hD.1
        clear hF hD
        exact wp_callS #[a.tmps.getD 67 undef] #[.slice A9 le.length c9] (by kernel_rfl) (by rw [e67]) (HEp.out A9 c9 W c3 hc9.out) (fun v w' h hb => hK _ _ h hb)
      · refine Obl.plain rfl _ rfl rfl [] (by kernel_rfl) fun a W hF hC hD K hK => ?_
        have e6 : a.tmps.getD 6 undef = .pointer (some ⟨b4, 0, none⟩) := hF.2.1
        clear hF hD hC
        go_simp
        exact hK _ _ rfl (Below.refl _ _)
      · refine Obl.plain rfl _ rfl rfl [2] (by kernel_rfl) fun a W hF hC hD K hK => ?_
        obtain ⟨c1, c2, c3⟩ := hC
        have e69 : a.tmps.getD 69 undef = .pointer (some ⟨b4, 0, none⟩) := hD.1
        clear hF hD
        have f0 : W.cell? ⟨b4, 0, none⟩ = some (.slice A (digs B32 P).length cp) := c1.cell 0
        go_simp
        exact hK _ _ rfl (Below.refl _ _)
      · refine Obl.plain rfl _ rfl rfl [1, 3, 1] (by kernel_rfl) fun a W hF hC hD K hK => ?_
        obtain ⟨c1, c2, c3⟩ := hC
        have e68 : (fun (v : Value) (w : World) => SlIs .u32 (digs B32 N) v w) (a.tmps.getD 68 undef) W := hD.1
        have e70 : a.tmps.getD 70 undef = .slice A (digs B32 P).length cp := hD.2.1
        clear hF hD
        obtain ⟨Aq, cq, qq, hcq, hrq⟩ := e68
        exact wp_callV #[a.tmps.getD 68 undef, a.tmps.getD 70 undef] #[.slice Aq (digs B32 N).length cq, .slice A (digs B32 P).length cp] (.int .i64 (cmpI N P)) (by kernel_rfl) (by rw [qq, e70]) (ncmp_any Aq A cq cp N P W hrq c2 (Nat.le_trans hNl.out (by decide)) (Nat.le_trans HPl.out (by decide))) (fun w' hb => hK _ _ rfl hb)
      · refine Obl.plain rfl _ rfl rfl [4] (by kernel_rfl) fun a W hF hC hD K hK => ?_
        have e71 : a.tmps.getD 71 undef = .int .i64 (cmpI N P) := hD.1
        clear hF hD hC
        go_simp
        exact hK _ _ rfl (Below.refl _ _)
      · refine Obl.plain rfl _ rfl rfl [5, 4] (by kernel_rfl) fun a W hF hC hD K hK => ?_
        have e72 : a.tmps.getD 72 undef = .bool (decide (0 ≤ cmpI N P)) := hD.1
        clear hF hD hC
        go_simp
        exact hK _ _ rfl (Below.refl _ _)
      rintro w11 hB11 hC11 _ rfl v68 g68 _ rfl _ rfl _ rfl _ rfl _ rfl
      change Below _ _ _ at hB11
      change wpList _ _ _ _ _ _
      simp only [List.drop_succ_cons, List.drop_zero, Act.put, List.setIfInBounds_toArray, List.set_cons_zero, List.set_cons_succ]
      clear g68 hC11
      have HB11 := hide hB11
      have HD11 := hide (HD10.out.next hB11)
      have HF11 := hide (HF10.out.next hB11)
      have HE11 := hide (HE10.out.below hB11)
      clear hB11 HD10 HF10 HE10 HS10 HV10
      by_cases hlt : N < P
      · have hdz : ¬ 0 ≤ cmpI N P := by unfold cmpI; rw [if_pos hlt]; decide
        obtain rfl : de = 0 := by rw [Hd2.out, if_pos hlt]
        obtain rfl : dv = N := by rw [Hd1.out, if_pos hlt]
        have hlt6 := hide (Nat.lt_trans hlt HF11.out.lt6)
        have Henc : Hid (∀ W, FQ W bf bm P n sz → Calls Try.prog 23 #[.pointer (some ⟨bf, 0, none⟩), vE dv] W (RetSl W .u8 le)) := hide fun W h => by
          have := fenc_c bf bm P n sz dv W h hlt6.out Hs48.out HPs.out
          rwa [Nat.mod_eq_of_lt hlt, hfb.out] at this
        replace hlt := hide hlt
        go_upto_region 6 with fail
        refine region_do 18 123 [fun v _ => v = .int .i64 (0), fun v _ => v = .bool false, fun v _ => v = .bool false, fun v _ => v = vE (dv), fun v _ => v = .slice A9 le.length c9, fun v w => SlIs .u32 (digs B32 dv) v w, fun v _ => v = vE (dv), fun v _ => v = .bool false, fun v _ => v = .bool false, fun v _ => v = .bool false, fun v _ => v = .pointer (some ⟨bf, 0, none⟩), fun v _ => v = vE (dv), fun v w => SlIs .u8 le v w, fun v _ => v = .string (strOf le), fun v _ => v = .slice A9 le.length c9, fun v _ => v = .string (strOf le), fun v _ => v = .bool false, fun v _ => v = .bool false]
          [(11, .int .i64 (0)), (10, .pointer (some ⟨b9, 0, none⟩)), (9, .slice A9 le.length c9), (5, .pointer (some ⟨bf, 0, none⟩))] (fun w' => FQ w' bf bm P n sz ∧ VB w' b9 24 (ve dv) ∧ Rd w' .u8 A9 le) (fun w' => True) 999 none (by kernel_rfl) (by kernel_rfl) rfl rfl
          (.cons (Fact.eq _) rfl (.cons (Fact.eq _) rfl (.cons (Fact.eq _) rfl (.cons (Fact.eq _) rfl (.cons (Fact.eq _) rfl (.cons (SlIs.st) rfl (.cons (Fact.eq _) rfl (.cons (Fact.eq _) rfl (.cons (Fact.eq _) rfl (.cons (Fact.eq _) rfl (.cons (Fact.eq _) rfl (.cons (Fact.eq _) rfl (.cons (SlIs.st) rfl (.cons (Fact.eq _) rfl (.cons (Fact.eq _) rfl (.cons (Fact.eq _) rfl (.cons (Fact.eq _) rfl (.cons (Fact.eq _) rfl (.nil _))))))))))))))))))) (fun w' h => ⟨HF11.out.next h, HD11.out.next h, HE11.out.below h⟩) (fun w' h => trivial) (by kernel_rfl) ⟨rfl, rfl, rfl, rfl, trivial⟩ (.cons ?_ (.cons ?_ (.cons ?_ (.cons ?_ (.cons ?_ (.cons ?_ (.cons ?_ (.cons ?_ (.cons ?_ (.cons ?_ (.cons ?_ (.cons ?_ (.cons ?_ (.cons ?_ (.cons ?_ (.cons ?_ (.cons ?_ (.cons ?_ .nil)))))))))))))))))) ?_
        · refine Obl.plain rfl _ rfl rfl [] (by kernel_rfl) fun a W hF hC hD K hK => ?_
          have e11 : a.tmps.getD 11 undef = .int .i64 (0) := hF.1
          clear hF hD hC
          go_simp
          exact hK _ _ rfl (Below.refl _ _)
        · refine Obl.plain rfl _ rfl rfl [0] (by kernel_rfl) fun a W hF hC hD K hK => ?_
          have e35 : a.tmps.getD 35 undef = .int .i64 (0) := hD.1
          clear hF hD hC
          go_simp
          exact hK _ _ rfl (Below.refl _ _)
        · refine Obl.plain rfl _ rfl rfl [1] (by kernel_rfl) fun a W hF hC hD K hK => ?_
          have e36 : a.tmps.getD 36 undef = .bool false := hD.1
          clear hF hD hC
          go_simp
          exact hK _ _ rfl (Below.refl _ _)
        · refine Obl.guarded rfl _ rfl 2 false 37 rfl rfl [2] (by kernel_rfl) (fun a W hF hC hD => hD.1) fun a W hF hC hD K hK => ?_
          obtain ⟨c1, c2, c3⟩ := hC
          have e10 : a.tmps.getD 10 undef = .pointer (some ⟨b9, 0, none⟩) := hF.2.1
          clear hF hD
          exact wpE _ (.tmp 10) rfl c2 e10 Try.underlying24 rfl Try.sz24 (hK _ _ rfl (Below.refl _ _))
        · refine Obl.guarded rfl _ rfl 2 false 37 rfl rfl [2] (by kernel_rfl) (fun a W hF hC hD => hD.1) fun a W hF hC hD K hK => ?_
          have e9 : a.tmps.getD 9 undef = .slice A9 le.length c9 := hF.2.2.1
          clear hF hD hC
          go_simp
          exact hK _ _ rfl (Below.refl _ _)
        · refine Obl.guarded rfl _ rfl 2 false 37 rfl rfl [4, 2, 2] (by kernel_rfl) (fun a W hF hC hD => hD.2.1) fun a W hF hC hD K hK => ?_
          obtain ⟨c1, c2, c3⟩ := hC
          have e39 : a.tmps.getD 39 undef = .slice A9 le.length c9 := hD.1
          clear hF hD
          exact wp_callS #[a.tmps.getD 39 undef] #[.slice A9 le.length c9] (by kernel_rfl) (by rw [e39]) (HEp.out A9 c9 W c3 hc9.out) (fun v w' h hb => hK _ _ h hb)
        · refine Obl.guarded rfl _ rfl 2 false 37 rfl rfl [5, 5, 2] (by kernel_rfl) (fun a W hF hC hD => hD.2.2.1) fun a W hF hC hD K hK => ?_
          have e40 : (fun (v : Value) (w : World) => SlIs .u32 (digs B32 dv) v w) (a.tmps.getD 40 undef) W := hD.1
          clear hF hD hC
          obtain ⟨Aq, cq, qq, hcq, hrq⟩ := e40
          exact wp_callV #[a.tmps.getD 40 undef] #[.slice Aq (digs B32 dv).length cq] (vE dv) (by kernel_rfl) (by rw [qq]) (rnum_any Aq cq dv W hrq hcq hlt6.out) (fun w' hb => hK _ _ rfl hb)
        · refine Obl.guarded rfl _ rfl 2 false 37 rfl rfl [3, 6, 2] (by kernel_rfl) (fun a W hF hC hD => hD.2.2.1) fun a W hF hC hD K hK => ?_
          have e38 : a.tmps.getD 38 undef = vE (dv) := hD.1
          have e41 : a.tmps.getD 41 undef = vE (dv) := hD.2.1
          clear hF hD hC
          have f0 := eqv_of (rfl : dv = dv)
          exact wp_neqN (.tmp 38) (.tmp 41) _ rfl e38 e41 (hK _ _ (congrArg (fun t => Value.bool (!t)) f0) (Below.refl _ _))
        · refine Obl.plain rfl _ rfl rfl [2, 7] (by kernel_rfl) fun a W hF hC hD K hK => ?_
          have e37 : a.tmps.getD 37 undef = .bool false := hD.1
          have e42 : a.tmps.getD 42 undef = .bool false := hD.2.1
          clear hF hD hC
          exact wp_pick (.tmp 37) (.const (.bool true)) (.tmp 42) rfl (b := false) e37 e42 (hK _ _ rfl (Below.refl _ _))
        · refine Obl.plain rfl _ rfl rfl [8, 6] (by kernel_rfl) fun a W hF hC hD K hK => ?_
          have e43 : a.tmps.getD 43 undef = .bool false := hD.1
          clear hF hD hC
          go_simp
          exact hK _ _ rfl (Below.refl _ _)
        · refine Obl.guarded rfl _ rfl 9 false 44 rfl rfl [9] (by kernel_rfl) (fun a W hF hC hD => hD.1) fun a W hF hC hD K hK => ?_
          have e5 : a.tmps.getD 5 undef = .pointer (some ⟨bf, 0, none⟩) := hF.2.2.2.1
          clear hF hD hC
          go_simp
          exact hK _ _ rfl (Below.refl _ _)
        · refine Obl.guarded rfl _ rfl 9 false 44 rfl rfl [9] (by kernel_rfl) (fun a W hF hC hD => hD.1) fun a W hF hC hD K hK => ?_
          obtain ⟨c1, c2, c3⟩ := hC
          have e10 : a.tmps.getD 10 undef = .pointer (some ⟨b9, 0, none⟩) := hF.2.1
          clear hF hD
          exact wpE _ (.tmp 10) rfl c2 e10 Try.underlying24 rfl Try.sz24 (hK _ _ rfl (Below.refl _ _))
        · refine Obl.guarded rfl _ rfl 9 false 44 rfl rfl [10, 11, 9, 9] (by kernel_rfl) (fun a W hF hC hD => hD.2.2.1) fun a W hF hC hD K hK => ?_
          obtain ⟨c1, c2, c3⟩ := hC
          have e45 : a.tmps.getD 45 undef = .pointer (some ⟨bf, 0, none⟩) := hD.1
          have e46 : a.tmps.getD 46 undef = vE (dv) := hD.2.1
          clear hF hD
          exact wp_callS #[a.tmps.getD 45 undef, a.tmps.getD 46 undef] #[.pointer (some ⟨bf, 0, none⟩), vE dv] (by kernel_rfl) (by rw [e45, e46]) (Henc.out W c1) (fun v w' h hb => hK _ _ h hb)
        · refine Obl.guarded rfl _ rfl 9 false 44 rfl rfl [12, 9] (by kernel_rfl) (fun a W hF hC hD => hD.2.1) fun a W hF hC hD K hK => ?_
          have e47 : (fun (v : Value) (w : World) => SlIs .u8 le v w) (a.tmps.getD 47 undef) W := hD.1
          clear hF hD hC
          obtain ⟨Aq, cq, qq, hcq, hrq⟩ := e47
          exact wp_str (.tmp 47) rfl qq hrq OkE.out (hK _ _ rfl (Below.refl _ _))
        · refine Obl.guarded rfl _ rfl 9 false 44 rfl rfl [9] (by kernel_rfl) (fun a W hF hC hD => hD.1) fun a W hF hC hD K hK => ?_
          have e9 : a.tmps.getD 9 undef = .slice A9 le.length c9 := hF.2.2.1
          clear hF hD hC
          go_simp
          exact hK _ _ rfl (Below.refl _ _)
        · refine Obl.guarded rfl _ rfl 9 false 44 rfl rfl [14, 9] (by kernel_rfl) (fun a W hF hC hD => hD.2.1) fun a W hF hC hD K hK => ?_
          obtain ⟨c1, c2, c3⟩ := hC
          have e49 : a.tmps.getD 49 undef = .slice A9 le.length c9 := hD.1
          clear hF hD
          exact wp_str (.tmp 49) rfl e49 c3 OkE.out (hK _ _ rfl (Below.refl _ _))
        · refine Obl.guarded rfl _ rfl 9 false 44 rfl rfl [13, 15, 9] (by kernel_rfl) (fun a W hF hC hD => hD.2.2.1) fun a W hF hC hD K hK => ?_
          have e48 : a.tmps.getD 48 undef = .string (strOf le) := hD.1
          have e50 : a.tmps.getD 50 undef = .string (strOf le) := hD.2.1
          clear hF hD hC
          exact wp_neqS (.tmp 48) (.tmp 50) _ rfl e48 e50 (hK _ _ rfl (Below.refl _ _))
        · refine Obl.plain rfl _ rfl rfl [9, 16] (by kernel_rfl) fun a W hF hC hD K hK => ?_
          have e44 : a.tmps.getD 44 undef = .bool false := hD.1
          have e51 : a.tmps.getD 51 undef = .bool false := hD.2.1
          clear hF hD hC
          exact wp_pick (.tmp 44) (.const (.bool true)) (.tmp 51) rfl (b := false) e44 e51 (hK _ _ rfl (Below.refl _ _))
        rintro w12 hB12 hC12 _ rfl _ rfl _ rfl _ rfl _ rfl v40 g40 _ rfl _ rfl _ rfl _ rfl _ rfl _ rfl v47 g47 _ rfl _ rfl _ rfl _ rfl _ rfl
        change Below _ _ _ at hB12
        change wpList _ _ _ _ _ _
        simp only [List.drop_succ_cons, List.drop_zero, Act.put, List.setIfInBounds_toArray, List.set_cons_zero, List.set_cons_succ]
        clear g40 g47 hC12
        have HB12 := hide (below_next HB11.out hB12)
        clear hB12
        go_wp2_with fail
        go_meet
        exact HB12.out
      · have hdz : 0 ≤ cmpI N P := by unfold cmpI; rw [if_neg hlt]; split <;> decide
        obtain rfl : de = 3 := by rw [Hd2.out, if_neg hlt]
        obtain rfl : dv = 0 := by rw [Hd1.out, if_neg hlt]
        have hz : eqv 0 0 = true := eqv_of rfl
        replace hlt := hide hlt
        go_wp2_with ((with_reducible refine loadTG 24 (o := ⟨some 76, _, _, _, _, _⟩) ?_ (.tmp 10) ?_ ?_ HD11.out Try.underlying24 rfl Try.sz24 ?_); rfl; rfl; rfl)
        go_meet
        exact HB11.out
    · have hd : ((le.length : Int) == (sz : Int)) = false := by rw [beq_eq_false_iff_ne]; omega
      obtain rfl : de = 6 := by rw [hde.out]; unfold decE; rw [if_neg hl]
      obtain rfl : dv = 0 := by rw [hdv.out]; unfold decV; rw [if_neg (fun h => hl h.1)]
      have Hl := hide hl
      have hz : eqv 0 0 = true := eqv_of rfl
      clear hl
      go_wp2_with ((with_reducible refine loadTG 24 (o := ⟨some 62, _, _, _, _, _⟩) ?_ (.tmp 10) ?_ ?_ HD10.out Try.underlying24 rfl Try.sz24 ?_); rfl; rfl; rfl)
      go_meet
      exact Below.refl _ _
  case rest =>
    have HBc := hide (below_next HB10.out hcut)
    have HVc := hide (HV10.out.next hcut)
    have HSc := hide (HS10.out.next hcut)
    have HFc := hide (HF10.out.next hcut)
    have HRc := hide (HR10.out.below hcut)
    clear r57 HR10 HE10 HD10 HV10 HS10 HF10 HB10 hcut hde hdv htk hc9
    have hP0 := HFc.out.pos
    have hxP := Nat.mod_lt x hP0
    have hx256 := hide (Nat.lt_of_lt_of_le hxP HPs.out)
    obtain ⟨F, hF⟩ : ∃ F, F = fillb (x % P) sz := ⟨_, rfl⟩
    have hFl : F.length = sz := by rw [hF]; exact fillb_length hx256.out
    have hFok : Ok 256 F := by rw [hF]; exact fillb_ok _ _
    have hFb : be F = x % P := by rw [hF]; exact be_fillb _ _
    have hFV : decV P sz F = x % P := by unfold decV; rw [if_pos ⟨hFl, by rw [hFb]; exact hxP⟩, hFb]
    have hFE : decE P sz F = 0 := by unfold decE; rw [if_pos hFl, if_pos (by rw [hFb]; exact hxP)]
    have Henc := hide (fun W h => fenc_c bf bm P n sz x W h Ha.out Hs48.out HPs.out)
    rw [← hF] at Henc
    have hF1000 := hide (show F.length ≤ 48 by rw [hFl]; exact Hs48.out)
    have Hdec := hide (fun A1 c1 W h1 h2 h3 => fdec_c bf bm P n sz A1 c1 F W h1 h2 h3 (Nat.le_trans hF1000.out (by decide)) hFok Hs48.out)
    rw [hFV, hFE] at Hdec
    have Hfill : Hid (∀ A1 c1 W, Rd W .u32 A1 (digs B32 (x % P)) → (digs B32 (x % P)).length ≤ c1 → Calls Try.prog 24 #[.slice A1 (digs B32 (x % P)).length c1, .int .i64 (sz : Int)] W (RetSl W .u8 F)) := hide fun A1 c1 W h1 h2 => by
      rw [hF]
      exact nfill_any A1 c1 (x % P) sz W h1 h2 (Nat.le_trans (b32len (n := x % P) (k := 12) (Nat.lt_trans hxP HP32.out)) (by decide)) (Nat.le_trans Hs48.out (by decide)) hx256.out
    have HFok := hide hFok
    have hd3 := hide (show ((F.length : Int) == (sz : Int)) = true by rw [hFl]; simp)
    replace hxP := hide hxP
    clear hF hFl hFb hFV hFE hFok
    go_upto_region 15 with (first
      | ((with_reducible refine askL (o := ⟨some 82, _, _, _, _, _⟩) (off := 1) ?_ (.tmp 81) ?_ HVc.out ?_ (v := x) ?_ ?_); rfl; rfl; rfl; rfl)
      | (go_at_call 23; refine (Henc.out wc HFc.out).mono ?_; rintro e w12 ⟨A12, c12, rfl, hc12, hr12, hb12⟩; replace hc12 := hide hc12; replace hr12 := hide hr12; replace hb12 := hide hb12))
    obtain ⟨A13, c13, w13, hrun, hc13, hr13, hb13⟩ := app_new A12 c12 F w12 hr12.out (Nat.le_trans hF1000.out (by decide))
    have Hrun := hide hrun
    have Hr13 := hide hr13
    have Hb13 := hide hb13
    clear hrun hr13 hb13
    go_upto_region 16 with (first
      | (at_builtin; refine wpList_app rfl _ _ _ rfl rfl rfl Hrun.out ?_)
      | (go_at_call 20; refine (Hdec.out A13 c13 w13 ((HFc.out.next hb12.out).next Hb13.out) Hr13.out hc13).mono ?_; rintro e w14 ⟨rfl, hb14⟩; replace hb14 := hide hb14)
      | ((with_reducible refine allocT 24 (o := ⟨some 13, _, _, _, _, _⟩) ?_ ?_ Try.zr24 ?_); rfl; rfl; intro w15 b15 hv15 hn15; replace hn15 := hide hn15)
      | ((with_reducible refine storeT 24 (v' := x % P) (o := ⟨none, _, _, _, _, _⟩) ?_ (.tmp 13) (.tmp 90) ?_ ?_ ?_ hv15 Try.sz24 ?_); rfl; rfl; rfl; rfl; intro w16 hv16 ho16))
    have hBa := below_next (below_next (below_next hb12.out Hb13.out) hb14.out) hn15.out.bl
    have hlo := hide (Nat.le_trans (below_next (below_next hb12.out Hb13.out) hb14.out).size hn15.out.lo)
    have HB16 := hide (Only.below (below_next HBc.out hBa) ho16.out (Nat.le_trans HBc.out.size hlo.out))
    have HV16 := hide (ho16.out.vb (HVc.out.next hBa) (Nat.ne_of_lt (Nat.lt_of_lt_of_le HVc.out.lt hlo.out)))
    have HS16 := hide (ho16.out.vb (HSc.out.next hBa) (Nat.ne_of_lt (Nat.lt_of_lt_of_le HSc.out.lt hlo.out)))
    have HF16 := hide ((HFc.out.next hBa).only ho16.out (Nat.ne_of_lt (Nat.lt_of_lt_of_le HFc.out.vb.lt hlo.out)) (Nat.ne_of_lt (Nat.lt_of_lt_of_le HFc.out.fb.vb.lt hlo.out)))
    have HR16 := hide (((HRc.out.toB.next hBa).only ho16.out hlo.out).rd)
    have HD16 := hide hv16
    have hBw := below_next (below_next Hb13.out hb14.out) hn15.out.bl
    have HE16 := hide (((hr12.out.toB.next hBw).only ho16.out (Nat.le_trans (below_next Hb13.out hb14.out).size hn15.out.lo)).rd)
    have Hbj := hide (show bf ≠ b15 ∧ bm ≠ b15 from ⟨(Nat.ne_of_lt (Nat.lt_of_lt_of_le HFc.out.vb.lt hlo.out)), (Nat.ne_of_lt (Nat.lt_of_lt_of_le HFc.out.fb.vb.lt hlo.out))⟩)
    have hxl := hide (b32len (n := x % P) (k := 12) (Nat.lt_trans hxP.out HP32.out))
    clear hBa hBw HBc HVc HSc HFc HRc hb12 Hb13 hb14 hv15 hn15 hv16 ho16 hlo hr12 Hr13 Hrun Hdec Henc
    refine region_do 31 123 [fun v _ => v = .slice A12 F.length c12, fun v _ => v = .int .i64 (F.length : Int), fun v _ => v = .pointer (some ⟨b4, 1, none⟩), fun v _ => v = .int .i64 (sz : Int), fun v _ => v = .bool true, fun v _ => v = .bool true, fun v _ => v = .slice A12 F.length c12, fun v _ => v = .string (strOf F), fun v _ => v = .agg (vF A P cp sz).toArray, fun v _ => v = .pointer (some ⟨b1, 1, none⟩), fun v _ => v = vE (x), fun v w => SlIs .u32 (digs B32 x) v w, fun v w => SlIs .u32 (digs B32 (x % P)) v w, fun v _ => v = .pointer (some ⟨b4, 1, none⟩), fun v _ => v = .int .i64 (sz : Int), fun v w => SlIs .u8 F v w, fun v _ => v = .string (strOf F), fun v _ => v = .bool true, fun v _ => v = .bool true, fun v _ => v = .bool true, fun v _ => v = .int .i64 (0), fun v _ => v = .bool true, fun v _ => v = .bool true, fun v _ => v = .bool true, fun v _ => v = vE (x % P), fun v _ => v = .pointer (some ⟨bf, 0, none⟩), fun v _ => v = .pointer (some ⟨b1, 1, none⟩), fun v _ => v = vE (x), fun v _ => v = vE (x % P), fun v _ => v = .bool true, fun v _ => v = .bool true]
      [(12, .slice A12 F.length c12), (6, .pointer (some ⟨b4, 0, none⟩)), (2, .pointer (some ⟨b1, 0, none⟩)), (14, .int .i64 (0)), (13, .pointer (some ⟨b15, 0, none⟩)), (5, .pointer (some ⟨bf, 0, none⟩))] (fun w' => FQ w' bf bm P n sz ∧ VB w' b1 27 (askCells k x y z s) ∧ VB w' b4 32 (vF A P cp sz) ∧ Rd w' .u32 A (digs B32 P) ∧ Rd w' .u8 A12 F ∧ VB w' b15 24 (ve (x % P))) (fun w' => True) 999 none (by kernel_rfl) (by kernel_rfl) rfl rfl
      (.cons (Fact.eq _) rfl (.cons (Fact.eq _) rfl (.cons (Fact.eq _) rfl (.cons (Fact.eq _) rfl (.cons (Fact.eq _) rfl (.cons (Fact.eq _) rfl (.cons (Fact.eq _) rfl (.cons (Fact.eq _) rfl (.cons (Fact.eq _) rfl (.cons (Fact.eq _) rfl (.cons (Fact.eq _) rfl (.cons (SlIs.st) rfl (.cons (SlIs.st) rfl (.cons (Fact.eq _) rfl (.cons (Fact.eq _) rfl (.cons (SlIs.st) rfl (.cons (Fact.eq _) rfl (.cons (Fact.eq _) rfl (.cons (Fact.eq _) rfl (.cons (Fact.eq _) rfl (.cons (Fact.eq _) rfl (.cons (Fact.eq _) rfl (.cons (Fact.eq _) rfl (.cons (Fact.eq _) rfl (.cons (Fact.eq _) rfl (.cons (Fact.eq _) rfl (.cons (Fact.eq _) rfl (.cons (Fact.eq _) rfl (.cons (Fact.eq _) rfl (.cons (Fact.eq _) rfl (.cons (Fact.eq _) rfl (.nil _)))))))))))))))))))))))))))))))) (fun w' h => ⟨HF16.out.next h, HV16.out.next h, HS16.out.next h, HR16.out.below h, HE16.out.below h, HD16.out.next h⟩) (fun w' h => trivial) (by kernel_rfl) ⟨rfl, rfl, rfl, rfl, rfl, rfl, trivial⟩ (.cons ?_ (.cons ?_ (.cons ?_ (.cons ?_ (.cons ?_ (.cons ?_ (.cons ?_ (.cons ?_ (.cons ?_ (.cons ?_ (.cons ?_ (.cons ?_ (.cons ?_ (.cons ?_ (.cons ?_ (.cons ?_ (.cons ?_ (.cons ?_ (.cons ?_ (.cons ?_ (.cons ?_ (.cons ?_ (.cons ?_ (.cons ?_ (.cons ?_ (.cons ?_ (.cons ?_ (.cons ?_ (.cons ?_ (.cons ?_ (.cons ?_ .nil))))))))))))))))))))))))))))))) ?_
    · refine Obl.plain rfl _ rfl rfl [] (by kernel_rfl) fun a W hF hC hD K hK => ?_
      have e12 : a.tmps.getD 12 undef = .slice A12 F.length c12 := hF.1
      clear hF hD hC
      go_simp
      exact hK _ _ rfl (Below.refl _ _)
    · refine Obl.plain rfl _ rfl rfl [0] (by kernel_rfl) fun a W hF hC hD K hK => ?_
      have e92 : a.tmps.getD 92 undef = .slice A12 F.length c12 := hD.1
      clear hF hD hC
      go_simp
      exact hK _ _ rfl (Below.refl _ _)
    · refine Obl.plain rfl _ rfl rfl [] (by kernel_rfl) fun a W hF hC hD K hK => ?_
      have e6 : a.tmps.getD 6 undef = .pointer (some ⟨b4, 0, none⟩) := hF.2.1
      clear hF hD hC
      go_simp
      exact hK _ _ rfl (Below.refl _ _)
    · refine Obl.plain rfl _ rfl rfl [2] (by kernel_rfl) fun a W hF hC hD K hK => ?_
      obtain ⟨c1, c2, c3, c4, c5, c6⟩ := hC
      have e94 : a.tmps.getD 94 undef = .pointer (some ⟨b4, 1, none⟩) := hD.1
      clear hF hD
      have f0 : W.cell? ⟨b4, 1, none⟩ = some (.int .i64 (sz : Int)) := c3.cell 1
      go_simp
      exact hK _ _ rfl (Below.refl _ _)
    · refine Obl.plain rfl _ rfl rfl [1, 3] (by kernel_rfl) fun a W hF hC hD K hK => ?_
      have e93 : a.tmps.getD 93 undef = .int .i64 (F.length : Int) := hD.1
      have e95 : a.tmps.getD 95 undef = .int .i64 (sz : Int) := hD.2.1
      clear hF hD hC
      have hd4 := hd3.out
      go_simp
      exact hK _ _ rfl (Below.refl _ _)
    · refine Obl.plain rfl _ rfl rfl [4] (by kernel_rfl) fun a W hF hC hD K hK => ?_
      have e96 : a.tmps.getD 96 undef = .bool true := hD.1
      clear hF hD hC
      go_simp
      exact hK _ _ rfl (Below.refl _ _)
    · refine Obl.guarded rfl _ rfl 5 true 97 rfl rfl [5] (by kernel_rfl) (fun a W hF hC hD => hD.1) fun a W hF hC hD K hK => ?_
      have e12 : a.tmps.getD 12 undef = .slice A12 F.length c12 := hF.1
      clear hF hD hC
      go_simp
      exact hK _ _ rfl (Below.refl _ _)
    · refine Obl.guarded rfl _ rfl 5 true 97 rfl rfl [6, 5] (by kernel_rfl) (fun a W hF hC hD => hD.2.1) fun a W hF hC hD K hK => ?_
      obtain ⟨c1, c2, c3, c4, c5, c6⟩ := hC
      have e98 : a.tmps.getD 98 undef = .slice A12 F.length c12 := hD.1
      clear hF hD
      exact wp_str (.tmp 98) rfl e98 c5 HFok.out (hK _ _ rfl (Below.refl _ _))
    · refine Obl.guarded rfl _ rfl 5 true 97 rfl rfl [5] (by kernel_rfl) (fun a W hF hC hD => hD.1) fun a W hF hC hD K hK => ?_
      obtain ⟨c1, c2, c3, c4, c5, c6⟩ := hC
      have e6 : a.tmps.getD 6 undef = .pointer (some ⟨b4, 0, none⟩) := hF.2.1
      clear hF hD
      exact wp_load_mid 32 (.tmp 6) rfl b4 0 e6 (vF A P cp sz) _ (fun j v hj => by rw [Nat.zero_add, c3.cell, hj]) Try.underlying32 rfl (szVF _ _ _ _) (hK _ _ rfl (Below.refl _ _))
    · refine Obl.guarded rfl _ rfl 5 true 97 rfl rfl [5] (by kernel_rfl) (fun a W hF hC hD => hD.1) fun a W hF hC hD K hK => ?_
      have e2 : a.tmps.getD 2 undef = .pointer (some ⟨b1, 0, none⟩) := hF.2.2.1
      clear hF hD hC
      go_simp
      exact hK _ _ rfl (Below.refl _ _)
    · refine Obl.guarded rfl _ rfl 5 true 97 rfl rfl [9, 5] (by kernel_rfl) (fun a W hF hC hD => hD.2.1) fun a W hF hC hD K hK => ?_
      obtain ⟨c1, c2, c3, c4, c5, c6⟩ := hC
      have e101 : a.tmps.getD 101 undef = .pointer (some ⟨b1, 1, none⟩) := hD.1
      clear hF hD
      exact wpAsk (.tmp 101) rfl c2 1 e101 rfl (hK _ _ rfl (Below.refl _ _))
    · refine Obl.guarded rfl _ rfl 5 true 97 rfl rfl [10, 5, 5] (by kernel_rfl) (fun a W hF hC hD => hD.2.1) fun a W hF hC hD K hK => ?_
      have e102 : a.tmps.getD 102 undef = vE (x) := hD.1
      clear hF hD hC
      exact wp_callS #[a.tmps.getD 102 undef] #[vE x] (by kernel_rfl) (by rw [e102]) (rn_any x W Ha.out) (fun v w' h hb => hK _ _ h hb)
    · refine Obl.guarded rfl _ rfl 5 true 97 rfl rfl [8, 11, 11, 5] (by kernel_rfl) (fun a W hF hC hD => hD.2.2.2.1) fun a W hF hC hD K hK => ?_
      obtain ⟨c1, c2, c3, c4, c5, c6⟩ := hC
      have e100 : a.tmps.getD 100 undef = .agg (vF A P cp sz).toArray := hD.1
      have e103 : (fun (v : Value) (w : World) => SlIs .u32 (digs B32 x) v w) (a.tmps.getD 103 undef) W := hD.2.1
      clear hF hD
      obtain ⟨Aq, cq, qq, hcq, hrq⟩ := e103
      exact wp_callS #[a.tmps.getD 100 undef, a.tmps.getD 103 undef] #[.agg (vF A P cp sz).toArray, .slice Aq (digs B32 x).length cq] (by kernel_rfl) (by rw [e100, qq]) (rred_any A Aq P cp sz cq x W c4 hcp.out (Nat.le_trans HPl.out (by decide)) hP0 hrq hcq (Nat.le_trans HXl.out (by decide))) (fun v w' h hb => hK _ _ h hb)
    · refine Obl.guarded rfl _ rfl 5 true 97 rfl rfl [5] (by kernel_rfl) (fun a W hF hC hD => hD.1) fun a W hF hC hD K hK => ?_
      have e6 : a.tmps.getD 6 undef = .pointer (some ⟨b4, 0, none⟩) := hF.2.1
      clear hF hD hC
      go_simp
      exact hK _ _ rfl (Below.refl _ _)
    · refine Obl.guarded rfl _ rfl 5 true 97 rfl rfl [13, 5] (by kernel_rfl) (fun a W hF hC hD => hD.2.1) fun a W hF hC hD K hK => ?_
      obtain ⟨c1, c2, c3, c4, c5, c6⟩ := hC
      have e105 : a.tmps.getD 105 undef = .pointer (some ⟨b4, 1, none⟩) := hD.1
      clear hF hD
      have f0 : W.cell? ⟨b4, 1, none⟩ = some (.int .i64 (sz : Int)) := c3.cell 1
      go_simp
      exact hK _ _ rfl (Below.refl _ _)
    · refine Obl.guarded rfl _ rfl 5 true 97 rfl rfl [12, 14, 12, 5] (by kernel_rfl) (fun a W hF hC hD => hD.2.2.2.1) fun a W hF hC hD K hK => ?_
      have e104 : (fun (v : Value) (w : World) => SlIs .u32 (digs B32 (x % P)) v w) (a.tmps.getD 104 undef) W := hD.1
      have e106 : a.tmps.getD 106 undef = .int .i64 (sz : Int) := hD.2.1
      clear hF hD hC
      obtain ⟨Aq, cq, qq, hcq, hrq⟩ := e104
      exact wp_callS #[a.tmps.getD 104 undef, a.tmps.getD 106 undef] #[.slice Aq (digs B32 (x % P)).length cq, .int .i64 (sz : Int)] (by kernel_rfl) (by rw [qq, e106]) (Hfill.out Aq cq W hrq hcq) (fun v w' h hb => hK _ _ h hb)
    · refine Obl.guarded rfl _ rfl 5 true 97 rfl rfl [15, 5] (by kernel_rfl) (fun a W hF hC hD => hD.2.1) fun a W hF hC hD K hK => ?_
      have e107 : (fun (v : Value) (w : World) => SlIs .u8 F v w) (a.tmps.getD 107 undef) W := hD.1
      clear hF hD hC
      obtain ⟨Aq, cq, qq, hcq, hrq⟩ := e107
      exact wp_str (.tmp 107) rfl qq hrq HFok.out (hK _ _ rfl (Below.refl _ _))
    · refine Obl.guarded rfl _ rfl 5 true 97 rfl rfl [7, 16, 5] (by kernel_rfl) (fun a W hF hC hD => hD.2.2.1) fun a W hF hC hD K hK => ?_
      have e99 : a.tmps.getD 99 undef = .string (strOf F) := hD.1
      have e108 : a.tmps.getD 108 undef = .string (strOf F) := hD.2.1
      clear hF hD hC
      exact wp_eqlS (.tmp 99) (.tmp 108) _ rfl e99 e108 (hK _ _ rfl (Below.refl _ _))
    · refine Obl.plain rfl _ rfl rfl [5, 17] (by kernel_rfl) fun a W hF hC hD K hK => ?_
      have e97 : a.tmps.getD 97 undef = .bool true := hD.1
      have e109 : a.tmps.getD 109 undef = .bool true := hD.2.1
      clear hF hD hC
      exact wp_pick (.tmp 97) (.tmp 109) (.const (.bool false)) rfl (b := true) e97 e109 (hK _ _ rfl (Below.refl _ _))
    · refine Obl.plain rfl _ rfl rfl [18, 15] (by kernel_rfl) fun a W hF hC hD K hK => ?_
      have e110 : a.tmps.getD 110 undef = .bool true := hD.1
      clear hF hD hC
      go_simp
      exact hK _ _ rfl (Below.refl _ _)
    · refine Obl.guarded rfl _ rfl 19 true 111 rfl rfl [19] (by kernel_rfl) (fun a W hF hC hD => hD.1) fun a W hF hC hD K hK => ?_
      have e14 : a.tmps.getD 14 undef = .int .i64 (0) := hF.2.2.2.1
      clear hF hD hC
      go_simp
      exact hK _ _ rfl (Below.refl _ _)
    · refine Obl.guarded rfl _ rfl 19 true 111 rfl rfl [20, 19] (by kernel_rfl) (fun a W hF hC hD => hD.2.1) fun a W hF hC hD K hK => ?_
      have e112 : a.tmps.getD 112 undef = .int .i64 (0) := hD.1
      clear hF hD hC
      go_simp
      exact hK _ _ rfl (Below.refl _ _)
    · refine Obl.plain rfl _ rfl rfl [19, 21] (by kernel_rfl) fun a W hF hC hD K hK => ?_
      have e111 : a.tmps.getD 111 undef = .bool true := hD.1
      have e113 : a.tmps.getD 113 undef = .bool true := hD.2.1
      clear hF hD hC
      exact wp_pick (.tmp 111) (.tmp 113) (.const (.bool false)) rfl (b := true) e111 e113 (hK _ _ rfl (Below.refl _ _))
    · refine Obl.plain rfl _ rfl rfl [22, 19] (by kernel_rfl) fun a W hF hC hD K hK => ?_
      have e114 : a.tmps.getD 114 undef = .bool true := hD.1
      clear hF hD hC
      go_simp
      exact hK _ _ rfl (Below.refl _ _)
    · refine Obl.guarded rfl _ rfl 23 true 115 rfl rfl [23] (by kernel_rfl) (fun a W hF hC hD => hD.1) fun a W hF hC hD K hK => ?_
      obtain ⟨c1, c2, c3, c4, c5, c6⟩ := hC
      have e13 : a.tmps.getD 13 undef = .pointer (some ⟨b15, 0, none⟩) := hF.2.2.2.2.1
      clear hF hD
      exact wpE _ (.tmp 13) rfl c6 e13 Try.underlying24 rfl Try.sz24 (hK _ _ rfl (Below.refl _ _))
    · refine Obl.guarded rfl _ rfl 23 true 115 rfl rfl [23] (by kernel_rfl) (fun a W hF hC hD => hD.1) fun a W hF hC hD K hK => ?_
      have e5 : a.tmps.getD 5 undef = .pointer (some ⟨bf, 0, none⟩) := hF.2.2.2.2.2.1
      clear hF hD hC
      go_simp
      exact hK _ _ rfl (Below.refl _ _)
    · refine Obl.guarded rfl _ rfl 23 true 115 rfl rfl [23] (by kernel_rfl) (fun a W hF hC hD => hD.1) fun a W hF hC hD K hK => ?_
      have e2 : a.tmps.getD 2 undef = .pointer (some ⟨b1, 0, none⟩) := hF.2.2.1
      clear hF hD hC
      go_simp
      exact hK _ _ rfl (Below.refl _ _)
    · refine Obl.guarded rfl _ rfl 23 true 115 rfl rfl [26, 23] (by kernel_rfl) (fun a W hF hC hD => hD.2.1) fun a W hF hC hD K hK => ?_
      obtain ⟨c1, c2, c3, c4, c5, c6⟩ := hC
      have e118 : a.tmps.getD 118 undef = .pointer (some ⟨b1, 1, none⟩) := hD.1
      clear hF hD
      exact wpAsk (.tmp 118) rfl c2 1 e118 rfl (hK _ _ rfl (Below.refl _ _))
    · refine Obl.guarded rfl _ rfl 23 true 115 rfl rfl [25, 27, 23, 23] (by kernel_rfl) (fun a W hF hC hD => hD.2.2.1) fun a W hF hC hD K hK => ?_
      obtain ⟨c1, c2, c3, c4, c5, c6⟩ := hC
      have e117 : a.tmps.getD 117 undef = .pointer (some ⟨bf, 0, none⟩) := hD.1
      have e119 : a.tmps.getD 119 undef = vE (x) := hD.2.1
      clear hF hD
      exact wp_callV #[a.tmps.getD 117 undef, a.tmps.getD 119 undef] #[.pointer (some ⟨bf, 0, none⟩), vE (x)] (vE (x % P)) (by kernel_rfl) (by rw [e117, e119]) (freduce_c bf bm P n sz x W c1 Ha.out) fun w' hb => hK _ _ rfl hb
    · refine Obl.guarded rfl _ rfl 23 true 115 rfl rfl [24, 28, 23] (by kernel_rfl) (fun a W hF hC hD => hD.2.2.1) fun a W hF hC hD K hK => ?_
      have e116 : a.tmps.getD 116 undef = vE (x % P) := hD.1
      have e120 : a.tmps.getD 120 undef = vE (x % P) := hD.2.1
      clear hF hD hC
      have f0 := eqv_of (rfl : x % P = x % P)
      exact wp_eqlN (.tmp 116) (.tmp 120) _ rfl e116 e120 (hK _ _ (congrArg Value.bool f0) (Below.refl _ _))
    · refine Obl.plain rfl _ rfl rfl [23, 29] (by kernel_rfl) fun a W hF hC hD K hK => ?_
      have e115 : a.tmps.getD 115 undef = .bool true := hD.1
      have e121 : a.tmps.getD 121 undef = .bool true := hD.2.1
      clear hF hD hC
      exact wp_pick (.tmp 115) (.tmp 121) (.const (.bool false)) rfl (b := true) e115 e121 (hK _ _ rfl (Below.refl _ _))
    rintro w17 hB17 hC17 _ rfl _ rfl _ rfl _ rfl _ rfl _ rfl _ rfl _ rfl _ rfl _ rfl _ rfl v103 g103 v104 g104 _ rfl _ rfl v107 g107 _ rfl _ rfl _ rfl _ rfl _ rfl _ rfl _ rfl _ rfl _ rfl _ rfl _ rfl _ rfl _ rfl _ rfl _ rfl
    change Below _ _ _ at hB17
    change wpList _ _ _ _ _ _
    simp only [List.drop_succ_cons, List.drop_zero, Act.put, List.setIfInBounds_toArray, List.set_cons_zero, List.set_cons_succ]
    clear g103 g104 g107 hC17
    have HB17 := hide (below_next HB16.out hB17)
    clear hB17
    go_wp2_with fail
    go_ret
    exact ⟨rfl, HB17.out⟩
end Go.Proofs.Ytincemkjdgbnnaa
