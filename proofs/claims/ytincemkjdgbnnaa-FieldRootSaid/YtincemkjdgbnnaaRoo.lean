/- Walks: package mont: IsSquare, Sqrt. -/
import Derived.Test.YtincemkjdgbnnaaSt
import Derived.Test.YtincemkjdgbnnaaFieP
import Derived.Test.YtincemkjdgbnnaaPlP
import Derived.Deep.Cut
set_option linter.unusedVariables false
set_option linter.unusedSimpArgs false
namespace Go.Proofs.Ytincemkjdgbnnaa
open Go.RowKit Lm

theorem eqv_mf {w : World} {bm P n : Nat} (hF : FB w bm P n) (hI : InvOk P) (A B : Nat) : eqv (mf P n A) (mf P n B) = decide (A % P = B % P) := by
  have hP : 0 < P := by have := hF.gt; omega
  have h6 := mP_le hF.lt hF.n6
  rw [eqv_lt (Nat.lt_trans (mf_lt hP A) h6) (Nat.lt_trans (mf_lt hP B) h6)]
  exact decide_eq_decide.2 (mf_inj hI)
theorem eqv_mf0 {w : World} {bm P n : Nat} (hF : FB w bm P n) (hI : InvOk P) (A : Nat) : eqv (mf P n A) 0 = decide (A % P = 0) := by
  have := eqv_mf hF hI A 0
  rwa [mf_zero, Nat.zero_mod] at this
theorem eqv_mf1 {w : World} {bm P n : Nat} (hF : FB w bm P n) (hI : InvOk P) (A : Nat) : eqv (mf P n A) (mf P n 1) = decide (A % P = 1) := by
  have := eqv_mf hF hI A 1
  rwa [Nat.mod_eq_of_lt hF.gt] at this
section
variable {o : Oper} {a : Act} {w : World} {Q : Exit → Act → World → Prop} {K : Act → World → Prop}
theorem wp_neqE (x y : Operand) (z : TypeId) (ho : o.op = .binOp .neq 98 x y z) {p q : Nat} (hx : a.eval x = vE p) (hy : a.eval y = vE q) {r : Bool} (hr : eqv p q = r) (h : K (a.put o.dst (.bool (!r))) w) : o.wp Try.prog a w K Q := by
  subst hr
  unfold Oper.wp execOp
  simp only [ho, hx, hy, Sem.run_bind, grdE, bin_neqE, Result.andThen_ok, Sem.run_pure]
  exact h
theorem wp_eqlE (x y : Operand) (z : TypeId) (ho : o.op = .binOp .eql 98 x y z) {p q : Nat} (hx : a.eval x = vE p) (hy : a.eval y = vE q) {r : Bool} (hr : eqv p q = r) (h : K (a.put o.dst (.bool r)) w) : o.wp Try.prog a w K Q := by
  subst hr
  unfold Oper.wp execOp
  simp only [ho, hx, hy, Sem.run_bind, grdE, bin_eqlE, Result.andThen_ok, Sem.run_pure]
  exact h
end

/-- Euler's criterion, as it is asked. -/
def sqB (P X : Nat) : Bool := decide (X ^ ((P - 1) / 2) % P = 1) || decide (X ^ ((P - 1) / 2) % P = 0)
theorem half_p {w : World} {A : Option Addr} {c v : Nat} (hr : Rd w .u64 A (digs B64 v)) (hc : (digs B64 v).length ≤ c) (hl : (digs B64 v).length < lim) :
    Calls Try.prog 125 #[.slice A (digs B64 v).length c] w (RetSl w .u64 (digs B64 (v / 2))) := by
  have := half_any A c (digs B64 v) w hr hc hl (digs_ok B64_ge v)
  rwa [val_digs B64_ge] at this

set_option maxRecDepth 100000 in
set_option maxHeartbeats 1600000 in
theorem misq_c (bm P n X : Nat) (w : World) (hF : FB w bm P n) (hI : InvOk P) :
    Calls Try.prog 124 #[.pointer (some ⟨bm, 0, none⟩), vE (mf P n X)] w fun e w' => e = .returned (.bool (sqB P X)) ∧ Below w.heap.size w w' := by
  have h6 := mP_le hF.lt hF.n6
  have hl1 := hide (show (digs B64 (P - 1)).length ≤ 6 from digs_length_le B64_ge (by omega))
  have hl2 := hide (show (digs B64 ((P - 1) / 2)).length ≤ 6 from digs_length_le B64_ge (by omega))
  clear h6
  obtain ⟨Y, hY⟩ : ∃ Y, Y = X ^ ((P - 1) / 2) := ⟨_, rfl⟩
  have hsq : sqB P X = (decide (Y % P = 1) || decide (Y % P = 0)) := by rw [hY]; rfl
  obtain ⟨q, hq⟩ : ∃ q, q = sqB P X := ⟨_, rfl⟩
  rw [← hq]
  rw [hsq] at hq
  replace hq := hide hq
  replace hY := hide hY
  clear hsq
  have hF := hide hF
  have hI := hide hI
  have hS0 := hide (St.start w)
  go_enter Try.func124, Try.ntmps124
  go_upto_region 1 with ((with_reducible refine boxS (o := ⟨some 3, _, _, _, _, _⟩) ?_ 98 (.tmp 1) ?_ hS0.out (ve (mf P n X)) ?_ ?_); rfl; rfl; rfl; intro w1 b3 hS1; replace hS1 := hide hS1)
  refine region_do 11 27 [fun v _ => v = .pointer (some ⟨bm, 0, none⟩), fun v _ => v = vE (mf P n X), fun v _ => v = .pointer (some ⟨bm, 0, none⟩), fun v _ => v = .pointer (some ⟨bm, 0, none⟩), fun v _ => v = .pointer (some ⟨bm, 0, none⟩), fun v _ => v = .slice (some ⟨bm, 0, none⟩) 6 6, fun v w => ∃ b, v = .slice (some ⟨b, 0, none⟩) 1 1 ∧ Blk w b 22 .u64 [1], fun v w => RetV w .u64 (digs B64 (P - 1)) v, fun v w => RetV w .u64 (digs B64 ((P - 1) / 2)) v, fun v _ => v = vE (mf P n Y), fun v w => PV w1.heap.size 98 (ve 0) v w]
    [(0, .pointer (some ⟨bm, 0, none⟩)), (3, .pointer (some ⟨b3, 0, none⟩))] (fun w' => St w w' [⟨b3, 98, ve (mf P n X)⟩] ∧ FB w' bm P n ∧ w1.heap.size ≤ w'.heap.size) (fun w' => True) 999 none (by kernel_rfl) (by kernel_rfl) rfl rfl
    (.cons (Fact.eq _) rfl (.cons (Fact.eq _) rfl (.cons (Fact.eq _) rfl (.cons (Fact.eq _) rfl (.cons (Fact.eq _) rfl (.cons (Fact.eq _) rfl (.cons (fun v w w' ⟨b, h1, h2⟩ hb => ⟨b, h1, h2.next hb⟩) rfl (.cons (fun v w w' h hb => h.next hb) rfl (.cons (fun v w w' h hb => h.next hb) rfl (.cons (Fact.eq _) rfl (.cons (PV.st) rfl (.nil _)))))))))))) (fun w' h => ⟨hS1.out.next h, hF.out.next (hS1.out.next h).bl, h.size⟩) (fun w' h => trivial) (by kernel_rfl) ⟨rfl, rfl, trivial⟩ (.cons ?_ (.cons ?_ (.cons ?_ (.cons ?_ (.cons ?_ (.cons ?_ (.cons ?_ (.cons ?_ (.cons ?_ (.cons ?_ (.cons ?_ .nil))))))))))) ?_
  · refine Obl.plain rfl _ rfl rfl [] (by kernel_rfl) fun a W hF hC hD K hK => ?_
    have e0 : a.tmps.getD 0 undef = .pointer (some ⟨bm, 0, none⟩) := hF.1
    clear hF hD hC
    go_simp
    exact hK _ _ rfl (Below.refl _ _)
  · refine Obl.plain rfl _ rfl rfl [] (by kernel_rfl) fun a W hF hC hD K hK => ?_
    obtain ⟨c1, c2, c3⟩ := hC
    have e3 : a.tmps.getD 3 undef = .pointer (some ⟨b3, 0, none⟩) := hF.2.1
    clear hF hD
    exact wpE _ (.tmp 3) rfl (c1.vb 0 _ rfl) e3 Try.underlying98 rfl Try.sz98 (hK _ _ rfl (Below.refl _ _))
  · refine Obl.plain rfl _ rfl rfl [] (by kernel_rfl) fun a W hF hC hD K hK => ?_
    have e0 : a.tmps.getD 0 undef = .pointer (some ⟨bm, 0, none⟩) := hF.1
    clear hF hD hC
    go_simp
    exact hK _ _ rfl (Below.refl _ _)
  · refine Obl.plain rfl _ rfl rfl [2] (by kernel_rfl) fun a W hF hC hD K hK => ?_
    have e8 : a.tmps.getD 8 undef = .pointer (some ⟨bm, 0, none⟩) := hD.1
    clear hF hD hC
    go_simp
    exact hK _ _ rfl (Below.refl _ _)
  · refine Obl.plain rfl _ rfl rfl [3] (by kernel_rfl) fun a W hF hC hD K hK => ?_
    have e9 : a.tmps.getD 9 undef = .pointer (some ⟨bm, 0, none⟩) := hD.1
    clear hF hD hC
    go_simp
    exact hK _ _ rfl (Below.refl _ _)
  · refine Obl.plain rfl _ rfl rfl [4] (by kernel_rfl) fun a W hF hC hD K hK => ?_
    have e10 : a.tmps.getD 10 undef = .pointer (some ⟨bm, 0, none⟩) := hD.1
    clear hF hD hC
    go_simp
    exact hK _ _ rfl (Below.refl _ _)
  · refine Obl.plain rfl _ rfl rfl [] (by kernel_rfl) fun a W hF hC hD K hK => ?_
    clear hF hD hC
    go_simp
    exact hK _ _ ⟨_, rfl, Blk.new W .u64 _ [1]⟩ (below_alloc (Below.refl _ _) _)
  · refine Obl.plain rfl _ rfl rfl [5, 6] (by kernel_rfl) fun a W hF hC hD K hK => ?_
    obtain ⟨c1, c2, c3⟩ := hC
    have e11 : a.tmps.getD 11 undef = .slice (some ⟨bm, 0, none⟩) 6 6 := hD.1
    have e12 : (fun (v : Value) (w : World) => ∃ b, v = .slice (some ⟨b, 0, none⟩) 1 1 ∧ Blk w b 22 .u64 [1]) (a.tmps.getD 12 undef) W := hD.2.1
    clear hF hD
    obtain ⟨b2, h2, hB2⟩ := e12
    go_simp
    refine (sub_p c2 hB2 (by decide) (Nat.le_of_lt c2.gt)).mono ?_
    rintro e W' ⟨A, c, rfl, hc, hr, hb⟩
    exact hK _ _ ⟨A, c, rfl, hc, hr⟩ hb
  · refine Obl.plain rfl _ rfl rfl [7, 7] (by kernel_rfl) fun a W hF hC hD K hK => ?_
    have e13 : (fun (v : Value) (w : World) => RetV w .u64 (digs B64 (P - 1)) v) (a.tmps.getD 13 undef) W := hD.1
    clear hF hD hC
    obtain ⟨A, c, h2, hc, hr⟩ := e13
    go_simp
    refine (half_p hr hc (Nat.lt_of_le_of_lt hl1.out (by decide))).mono ?_
    rintro e W' ⟨A, c, rfl, hc, hr, hb⟩
    exact hK _ _ ⟨A, c, rfl, hc, hr⟩ hb
  · refine Obl.plain rfl _ rfl rfl [0, 1, 8, 8] (by kernel_rfl) fun a W hF hC hD K hK => ?_
    obtain ⟨c1, c2, c3⟩ := hC
    have e6 : a.tmps.getD 6 undef = .pointer (some ⟨bm, 0, none⟩) := hD.1
    have e7 : a.tmps.getD 7 undef = vE (mf P n X) := hD.2.1
    have e14 : (fun (v : Value) (w : World) => RetV w .u64 (digs B64 ((P - 1) / 2)) v) (a.tmps.getD 14 undef) W := hD.2.2.1
    clear hF hD
    obtain ⟨A, c, h2, hc, hr⟩ := e14
    go_simp
    have h := mexp_c bm P n X A c (digs B64 ((P - 1) / 2)) W c2 hI.out hr hc (Nat.le_trans hl2.out (by decide)) (digs_ok B64_ge _)
    rw [val_digs B64_ge, ← hY.out] at h
    refine h.mono ?_
    rintro e W' ⟨rfl, hb⟩
    exact hK _ _ rfl hb
  · refine Obl.plain rfl _ rfl rfl [] (by kernel_rfl) fun a W hF hC hD K hK => ?_
    obtain ⟨c1, c2, c3⟩ := hC
    clear hF hD
    exact wp_alloc 98 rfl (ve 0) Try.zr98 c3 (fun v w' h hb => hK _ _ h hb)
  rintro w2 hB2 hC2 _ rfl _ rfl _ rfl _ rfl _ rfl _ rfl v12 g12 v13 g13 v14 g14 _ rfl v5 g5
  change Below _ _ _ at hB2
  change wpList _ _ _ _ _ _
  simp only [List.drop_succ_cons, List.drop_zero, Act.put, List.setIfInBounds_toArray, List.set_cons_zero, List.set_cons_succ]
  obtain ⟨b5, rfl, hlo5, hv5⟩ := g5
  have hS2 := hide (hS1.out.push hB2 hlo5 hv5)
  clear hB2 hC2 hlo5 hv5 g12 g13 g14 hS1 hS0
  go_upto_region 2 with ((with_reducible refine storeWS (n := 6) (o := ⟨none, _, _, _, _, _⟩) ?_ 98 (.tmp 5) (.tmp 15) ?_ hS2.out 1 (c := ⟨b5, 98, ve 0⟩) ?_ ?_ (ve (mf P n Y)) ?_ ?_ ?_ ?_ Try.sz98 ?_); rfl; rfl; rfl; rfl; rfl; rfl; rfl; rfl; intro w3 hS3 hO3; replace hS3 : Hid (St w w3 [⟨b3, 98, ve (mf P n X)⟩, ⟨b5, 98, ve (mf P n Y)⟩]) := hS3)
  clear hS2
  have hF3 := hide (hF.out.next hS3.out.bl)
  by_cases h1 : Y % P = 1
  ·
    refine region_do 11 27 [fun v _ => v = vE (mf P n Y), fun v _ => v = .pointer (some ⟨bm, 0, none⟩), fun v _ => v = .pointer (some ⟨bm, 0, none⟩), fun v _ => v = .pointer (some ⟨bm, 8, none⟩), fun v _ => v = vE (mf P n 1), fun v _ => v = .bool true, fun v _ => v = .bool true, fun v _ => v = undef, fun v _ => v = undef, fun v _ => v = undef, fun v _ => v = .bool true]
      [(5, .pointer (some ⟨b5, 0, none⟩)), (0, .pointer (some ⟨bm, 0, none⟩))] (fun w' => St w w' [⟨b3, 98, ve (mf P n X)⟩, ⟨b5, 98, ve (mf P n Y)⟩] ∧ FB w' bm P n) (fun w' => True) 999 none (by kernel_rfl) (by kernel_rfl) rfl rfl
      (.cons (Fact.eq _) rfl (.cons (Fact.eq _) rfl (.cons (Fact.eq _) rfl (.cons (Fact.eq _) rfl (.cons (Fact.eq _) rfl (.cons (Fact.eq _) rfl (.cons (Fact.eq _) rfl (.cons (Fact.eq _) rfl (.cons (Fact.eq _) rfl (.cons (Fact.eq _) rfl (.cons (Fact.eq _) rfl (.nil _)))))))))))) (fun w' h => ⟨hS3.out.next h, hF3.out.next h⟩) (fun w' h => trivial) (by kernel_rfl) ⟨rfl, rfl, trivial⟩ (.cons ?_ (.cons ?_ (.cons ?_ (.cons ?_ (.cons ?_ (.cons ?_ (.cons ?_ (.cons ?_ (.cons ?_ (.cons ?_ (.cons ?_ .nil))))))))))) ?_
    · refine Obl.plain rfl _ rfl rfl [] (by kernel_rfl) fun a W hF hC hD K hK => ?_
      obtain ⟨c1, c2⟩ := hC
      have e5 : a.tmps.getD 5 undef = .pointer (some ⟨b5, 0, none⟩) := hF.1
      clear hF hD
      exact wpE _ (.tmp 5) rfl (c1.vb 1 _ rfl) e5 Try.underlying98 rfl Try.sz98 (hK _ _ rfl (Below.refl _ _))
    · refine Obl.plain rfl _ rfl rfl [] (by kernel_rfl) fun a W hF hC hD K hK => ?_
      have e0 : a.tmps.getD 0 undef = .pointer (some ⟨bm, 0, none⟩) := hF.2.1
      clear hF hD hC
      go_simp
      exact hK _ _ rfl (Below.refl _ _)
    · refine Obl.plain rfl _ rfl rfl [1] (by kernel_rfl) fun a W hF hC hD K hK => ?_
      have e17 : a.tmps.getD 17 undef = .pointer (some ⟨bm, 0, none⟩) := hD.1
      clear hF hD hC
      go_simp
      exact hK _ _ rfl (Below.refl _ _)
    · refine Obl.plain rfl _ rfl rfl [2] (by kernel_rfl) fun a W hF hC hD K hK => ?_
      have e18 : a.tmps.getD 18 undef = .pointer (some ⟨bm, 0, none⟩) := hD.1
      clear hF hD hC
      go_simp
      exact hK _ _ rfl (Below.refl _ _)
    · refine Obl.plain rfl _ rfl rfl [3] (by kernel_rfl) fun a W hF hC hD K hK => ?_
      obtain ⟨c1, c2⟩ := hC
      have e19 : a.tmps.getD 19 undef = .pointer (some ⟨bm, 8, none⟩) := hD.1
      clear hF hD
      exact wpF (.tmp 19) rfl c2 8 e19 (part_one' P n) (by decide) (hK _ _ rfl (Below.refl _ _))
    · refine Obl.plain rfl _ rfl rfl [0, 4] (by kernel_rfl) fun a W hF hC hD K hK => ?_
      obtain ⟨c1, c2⟩ := hC
      have e16 : a.tmps.getD 16 undef = vE (mf P n Y) := hD.1
      have e20 : a.tmps.getD 20 undef = vE (mf P n 1) := hD.2.1
      clear hF hD
      exact wp_eqlE (.tmp 16) (.tmp 20) _ rfl e16 e20 ((eqv_mf1 c2 hI.out Y).trans (decide_eq_true h1)) (hK _ _ rfl (Below.refl _ _))
    · refine Obl.plain rfl _ rfl rfl [5] (by kernel_rfl) fun a W hF hC hD K hK => ?_
      have e21 : a.tmps.getD 21 undef = .bool true := hD.1
      clear hF hD hC
      go_simp
      exact hK _ _ rfl (Below.refl _ _)
    · exact Obl.skipped rfl _ rfl 6 false 22 rfl rfl [6] (by kernel_rfl) (fun a W hF hC hD => hD.1) (fun _ => rfl)
    · exact Obl.skipped rfl _ rfl 6 false 22 rfl rfl [6] (by kernel_rfl) (fun a W hF hC hD => hD.1) (fun _ => rfl)
    · exact Obl.skipped rfl _ rfl 6 false 22 rfl rfl [7, 8, 6] (by kernel_rfl) (fun a W hF hC hD => hD.2.2.1) (fun _ => rfl)
    · refine Obl.plain rfl _ rfl rfl [6, 9] (by kernel_rfl) fun a W hF hC hD K hK => ?_
      have e22 : a.tmps.getD 22 undef = .bool true := hD.1
      have e25 : a.tmps.getD 25 undef = undef := hD.2.1
      clear hF hD hC
      go_simp
      exact hK _ _ rfl (Below.refl _ _)
    rintro w4 hB4 hC4 _ rfl _ rfl _ rfl _ rfl _ rfl _ rfl _ rfl _ rfl _ rfl _ rfl _ rfl
    change Below _ _ _ at hB4
    change wpList _ _ _ _ _ _
    simp only [List.drop_succ_cons, List.drop_zero, Act.put, List.setIfInBounds_toArray, List.set_cons_zero, List.set_cons_succ]
    obtain rfl : q = true := by rw [hq.out, decide_eq_true h1]; rfl
    clear hC4
    have hB5 := hide (hS3.out.next hB4).bl
    clear hB4
    go_wp2_with fail
    go_ret
    exact ⟨rfl, hB5.out⟩
  ·
    refine region_do 11 27 [fun v _ => v = vE (mf P n Y), fun v _ => v = .pointer (some ⟨bm, 0, none⟩), fun v _ => v = .pointer (some ⟨bm, 0, none⟩), fun v _ => v = .pointer (some ⟨bm, 8, none⟩), fun v _ => v = vE (mf P n 1), fun v _ => v = .bool false, fun v _ => v = .bool false, fun v _ => v = vE (mf P n Y), fun v _ => v = vE (0), fun v _ => v = .bool (decide (Y % P = 0)), fun v _ => v = .bool (decide (Y % P = 0))]
      [(5, .pointer (some ⟨b5, 0, none⟩)), (0, .pointer (some ⟨bm, 0, none⟩))] (fun w' => St w w' [⟨b3, 98, ve (mf P n X)⟩, ⟨b5, 98, ve (mf P n Y)⟩] ∧ FB w' bm P n) (fun w' => True) 999 none (by kernel_rfl) (by kernel_rfl) rfl rfl
      (.cons (Fact.eq _) rfl (.cons (Fact.eq _) rfl (.cons (Fact.eq _) rfl (.cons (Fact.eq _) rfl (.cons (Fact.eq _) rfl (.cons (Fact.eq _) rfl (.cons (Fact.eq _) rfl (.cons (Fact.eq _) rfl (.cons (Fact.eq _) rfl (.cons (Fact.eq _) rfl (.cons (Fact.eq _) rfl (.nil _)))))))))))) (fun w' h => ⟨hS3.out.next h, hF3.out.next h⟩) (fun w' h => trivial) (by kernel_rfl) ⟨rfl, rfl, trivial⟩ (.cons ?_ (.cons ?_ (.cons ?_ (.cons ?_ (.cons ?_ (.cons ?_ (.cons ?_ (.cons ?_ (.cons ?_ (.cons ?_ (.cons ?_ .nil))))))))))) ?_
    · refine Obl.plain rfl _ rfl rfl [] (by kernel_rfl) fun a W hF hC hD K hK => ?_
      obtain ⟨c1, c2⟩ := hC
      have e5 : a.tmps.getD 5 undef = .pointer (some ⟨b5, 0, none⟩) := hF.1
      clear hF hD
      exact wpE _ (.tmp 5) rfl (c1.vb 1 _ rfl) e5 Try.underlying98 rfl Try.sz98 (hK _ _ rfl (Below.refl _ _))
    · refine Obl.plain rfl _ rfl rfl [] (by kernel_rfl) fun a W hF hC hD K hK => ?_
      have e0 : a.tmps.getD 0 undef = .pointer (some ⟨bm, 0, none⟩) := hF.2.1
      clear hF hD hC
      go_simp
      exact hK _ _ rfl (Below.refl _ _)
    · refine Obl.plain rfl _ rfl rfl [1] (by kernel_rfl) fun a W hF hC hD K hK => ?_
      have e17 : a.tmps.getD 17 undef = .pointer (some ⟨bm, 0, none⟩) := hD.1
      clear hF hD hC
      go_simp
      exact hK _ _ rfl (Below.refl _ _)
    · refine Obl.plain rfl _ rfl rfl [2] (by kernel_rfl) fun a W hF hC hD K hK => ?_
      have e18 : a.tmps.getD 18 undef = .pointer (some ⟨bm, 0, none⟩) := hD.1
      clear hF hD hC
      go_simp
      exact hK _ _ rfl (Below.refl _ _)
    · refine Obl.plain rfl _ rfl rfl [3] (by kernel_rfl) fun a W hF hC hD K hK => ?_
      obtain ⟨c1, c2⟩ := hC
      have e19 : a.tmps.getD 19 undef = .pointer (some ⟨bm, 8, none⟩) := hD.1
      clear hF hD
      exact wpF (.tmp 19) rfl c2 8 e19 (part_one' P n) (by decide) (hK _ _ rfl (Below.refl _ _))
    · refine Obl.plain rfl _ rfl rfl [0, 4] (by kernel_rfl) fun a W hF hC hD K hK => ?_
      obtain ⟨c1, c2⟩ := hC
      have e16 : a.tmps.getD 16 undef = vE (mf P n Y) := hD.1
      have e20 : a.tmps.getD 20 undef = vE (mf P n 1) := hD.2.1
      clear hF hD
      exact wp_eqlE (.tmp 16) (.tmp 20) _ rfl e16 e20 ((eqv_mf1 c2 hI.out Y).trans (decide_eq_false h1)) (hK _ _ rfl (Below.refl _ _))
    · refine Obl.plain rfl _ rfl rfl [5] (by kernel_rfl) fun a W hF hC hD K hK => ?_
      have e21 : a.tmps.getD 21 undef = .bool false := hD.1
      clear hF hD hC
      go_simp
      exact hK _ _ rfl (Below.refl _ _)
    · refine Obl.guarded rfl _ rfl 6 false 22 rfl rfl [6] (by kernel_rfl) (fun a W hF hC hD => hD.1) fun a W hF hC hD K hK => ?_
      obtain ⟨c1, c2⟩ := hC
      have e5 : a.tmps.getD 5 undef = .pointer (some ⟨b5, 0, none⟩) := hF.1
      clear hF hD
      exact wpE _ (.tmp 5) rfl (c1.vb 1 _ rfl) e5 Try.underlying98 rfl Try.sz98 (hK _ _ rfl (Below.refl _ _))
    · refine Obl.guarded rfl _ rfl 6 false 22 rfl rfl [6] (by kernel_rfl) (fun a W hF hC hD => hD.1) fun a W hF hC hD K hK => ?_
      clear hF hD hC
      go_simp
      exact hK _ _ rfl (Below.refl _ _)
    · refine Obl.guarded rfl _ rfl 6 false 22 rfl rfl [7, 8, 6] (by kernel_rfl) (fun a W hF hC hD => hD.2.2.1) fun a W hF hC hD K hK => ?_
      obtain ⟨c1, c2⟩ := hC
      have e23 : a.tmps.getD 23 undef = vE (mf P n Y) := hD.1
      have e24 : a.tmps.getD 24 undef = vE (0) := hD.2.1
      clear hF hD
      exact wp_eqlE (.tmp 23) (.tmp 24) _ rfl e23 e24 (eqv_mf0 c2 hI.out Y) (hK _ _ rfl (Below.refl _ _))
    · refine Obl.plain rfl _ rfl rfl [6, 9] (by kernel_rfl) fun a W hF hC hD K hK => ?_
      have e22 : a.tmps.getD 22 undef = .bool false := hD.1
      have e25 : a.tmps.getD 25 undef = .bool (decide (Y % P = 0)) := hD.2.1
      clear hF hD hC
      go_simp
      exact hK _ _ rfl (Below.refl _ _)
    rintro w4 hB4 hC4 _ rfl _ rfl _ rfl _ rfl _ rfl _ rfl _ rfl _ rfl _ rfl _ rfl _ rfl
    change Below _ _ _ at hB4
    change wpList _ _ _ _ _ _
    simp only [List.drop_succ_cons, List.drop_zero, Act.put, List.setIfInBounds_toArray, List.set_cons_zero, List.set_cons_succ]
    have hq2 : decide (Y % P = 0) = q := by rw [hq.out, decide_eq_false h1]; rfl
    rw [hq2]
    clear hC4 hq2
    have hB5 := hide (hS3.out.next hB4).bl
    clear hB4
    replace h1 := hide h1
    go_wp2_with fail
    go_ret
    exact ⟨rfl, hB5.out⟩
end Go.Proofs.Ytincemkjdgbnnaa
