/- Walks: ext.New: the block of a tower. -/
import Derived.Test.YtincemkjdgbnnaaDivF
set_option linter.unusedVariables false
set_option linter.unusedSimpArgs false
namespace Go.Proofs.Ytincemkjdgbnnaa
open Go.RowKit Lm

/-- the block while it is made. -/
def tc0 (bm : Nat) (A B R : List Value) : List Value := .pointer (some ⟨bm, 0, none⟩) :: (A ++ (B ++ R))
/-- the first k powers. -/
def frs (P n : Nat) (F : Nat → Z2) : Nat → List Value
  | 0 => []
  | k + 1 => frs P n F k ++ m2 P n (F k)
theorem frs_len (P n : Nat) (F : Nat → Z2) : ∀ k, (frs P n F k).length = 12 * k
  | 0 => rfl
  | k + 1 => by rw [frs, List.length_append, frs_len P n F k, m2_len]; omega
/-- the power's exponent. -/
def sxt (P : Nat) : Nat := (P - 1) / 6
/-- the powers that the Frobenius map takes. -/
def fbk (P : Nat) (N : Int) (k : Nat) : Z2 := Z2.pow (Z2.pow (xi N) (sxt P)) k
/-- all six of them. -/
def fr6 (P n : Nat) (N : Int) : List Value := frs P n (fbk P N) 6
theorem put_mid (X Y Z cs : List Value) {off n : Nat} (hX : X.length = off) (hY : Y.length = n) : (X ++ (Y ++ Z)).take off ++ (cs ++ (X ++ (Y ++ Z)).drop (off + n)) = X ++ (cs ++ Z) := by
  rw [take_app X _ hX, ← List.drop_drop, drop_app X _ hX, drop_app Y _ hY]
theorem get_mid (X Y Z : List Value) {off n : Nat} (hX : X.length = off) (hY : Y.length = n) : ((X ++ (Y ++ Z)).drop off).take n = Y := by
  rw [drop_app X _ hX, take_app Y _ hY]
theorem z0_add (j k : Nat) : z0 (j + k) = z0 j ++ z0 k := by unfold z0; rw [List.replicate_append_replicate]
theorem z0_len (k : Nat) : (z0 k).length = k := List.length_replicate
theorem eE_zero (P n : Nat) : eE P n 0 = z0 6 := by unfold eE; rw [mi_zero]; rfl
theorem Try.bldT (bm : Nat) (w : World) : (Instr.build 179 #[(0, .pointer (some ⟨bm, 0, none⟩))]).run Try.prog w = .ok (.agg (tc0 bm (z0 6) (z0 6) (z0 72)).toArray) w := by kernel_rfl
theorem tc_done (bm P n : Nat) (N : Int) (R : List Value) : tc0 bm (eE P n N) (eE P n 1) R = tcells bm P n N R := rfl
theorem sub_ve {w : World} {b b1 P k : Nat} {t t1 : TypeId} (hv : VB w b t (ve P)) (hP6 : P < B64 ^ 6) (hB : Blk w b1 t1 .u64 [k]) (hkB : k < B64) (hk : k ≤ P) :
    Calls Try.prog 122 #[.slice (some ⟨b, 0, none⟩) 6 6, .slice (some ⟨b1, 0, none⟩) 1 1] w (RetSl w .u64 (digs B64 (P - k))) := by
  have hv1 : val B64 [k] = k := by simp [val]
  have h := sub_any (some ⟨b, 0, none⟩) (some ⟨b1, 0, none⟩) 6 1 (fix B64 6 P) [k] w (ve_rd hv) (by rw [fix_length]; exact Nat.le_refl _) (by rw [fix_length]; unfold lim; omega) (fix_ok B64_pos _ _)
    (fun _ => ⟨_, _, rfl, hB.row0⟩) (Nat.le_refl _) (by simp [lim]) (Ok.cons hkB Ok.nil) (by rw [val_fix_of_lt hP6, hv1]; exact hk)
  rw [fix_length, val_fix_of_lt hP6, hv1] at h
  exact h
theorem div_six {w : World} {A : Option Addr} {c v b1 : Nat} {t1 : TypeId} (hr : Rd w .u64 A (digs B64 v)) (hc : (digs B64 v).length ≤ c) (h6 : v < B64 ^ 6) (hv : v ≠ 0) (hB : Blk w b1 t1 .u64 [6]) :
    Calls Try.prog 69 #[.slice A (digs B64 v).length c, .slice (some ⟨b1, 0, none⟩) 1 1] w (RetDF w (v / 6) (v % 6)) := by
  have hv1 : val B64 [6] = 6 := by simp [val]
  have hl := digs_length_le B64_ge h6
  have h0 : (digs B64 v).length ≠ 0 := fun h => hv ((digs_eq_nil B64_ge).1 (List.length_eq_zero_iff.1 h))
  have h := divmod_bigF A (some ⟨b1, 0, none⟩) c 1 (digs B64 v) [6] w hr hc (by unfold lim; omega) (digs_ok B64_ge v) (fun _ => ⟨_, _, rfl, hB.row0⟩) (Nat.le_refl _) (by simp [lim]) (Ok.cons (by decide) Ok.nil) (by rw [hv1]; decide)
    (by rw [hv1, val_digs B64_ge]; exact Nat.le_trans (digs_length_le B64_ge (k := 1) (by decide)) (by omega))
  rw [val_digs B64_ge, hv1] at h
  exact h
theorem Rd.only {w w' : World} {k : IntKind} {b off b' : Nat} {l : List Nat} (h : Rd w k (some ⟨b, off, none⟩) l) (ho : Only w w' b') (hne : b ≠ b') : Rd w' k (some ⟨b, off, none⟩) l := fun hl => by
  obtain ⟨b1, o1, e, hr⟩ := h hl
  injection e with e; injection e with e1 e2
  subst e1; subst e2
  exact ⟨_, _, rfl, ho.row hr hne⟩
theorem tc_put (bm : Nat) {A B : List Value} (hA : A.length = 6) (hB : B.length = 6) (P n : Nat) (F : Nat → Z2) {k : Nat} (hk : k < 6) :
    (tc0 bm A B (frs P n F k ++ z0 (72 - 12 * k))).take (13 + k * 12) ++ (m2 P n (F k) ++ (tc0 bm A B (frs P n F k ++ z0 (72 - 12 * k))).drop (13 + k * 12 + 12)) = tc0 bm A B (frs P n F (k + 1) ++ z0 (72 - 12 * (k + 1))) := by
  have e1 : tc0 bm A B (frs P n F k ++ z0 (72 - 12 * k)) = (.pointer (some ⟨bm, 0, none⟩) :: (A ++ (B ++ frs P n F k))) ++ (z0 12 ++ z0 (72 - 12 * (k + 1))) := by
    rw [← z0_add, show 12 + (72 - 12 * (k + 1)) = 72 - 12 * k by omega]
    simp [tc0]
  rw [e1, put_mid _ (z0 12) _ (m2 P n (F k)) (by simp [hA, hB, frs_len]; omega) (z0_len 12)]
  simp [tc0, frs]
theorem tc_get (bm : Nat) {A B : List Value} (hA : A.length = 6) (hB : B.length = 6) (P n : Nat) (F : Nat → Z2) (k : Nat) (R : List Value) :
    ((tc0 bm A B (frs P n F (k + 1) ++ R)).drop (13 + k * 12)).take 12 = m2 P n (F k) := by
  have e1 : tc0 bm A B (frs P n F (k + 1) ++ R) = (.pointer (some ⟨bm, 0, none⟩) :: (A ++ (B ++ frs P n F k))) ++ (m2 P n (F k) ++ R) := by
    simp [tc0, frs]
  rw [e1]
  exact get_mid _ _ _ (by simp [hA, hB, frs_len]; omega) (m2_len P n _)
theorem tc_len (bm : Nat) {A B R : List Value} (hA : A.length = 6) (hB : B.length = 6) : (tc0 bm A B R).length = 13 + R.length := by simp [tc0, hA, hB]; omega
section
variable {P : Program} {ops : Array Oper} {rest : List Oper} {o : Oper} {a : Act} {w w0 : World} {L : List Cel} {Q : Exit → Act → World → Prop}
theorem storeSO (hgd : o.guard = none) {n : Nat} (ty : TypeId) (x y : Operand) (ho : o.op = .store ty x y) (hS : St w0 w L) (i : Nat) {c : Cel} (hi : L[i]? = some c) (off : Nat) (hx : a.eval x = .pointer (some ⟨c.b, off, none⟩)) (cs : List Value) (hy : a.eval y = .agg cs.toArray)
    (hl : cs.length = n) (h1 : cs.all (·.oneCell') = true) (hz : (P.info? ty).map (·.size) = some n) (hn : off + n ≤ c.cs.length) (cs' : List Value) (hcs : c.cs.take off ++ (cs ++ c.cs.drop (off + n)) = cs')
    (h : ∀ w', St w0 w' (L.set i ⟨c.b, c.t, cs'⟩) → Hid (Only w w' c.b) → wpList P ops Q rest (a.put o.dst undef) w') : wpList P ops Q (o :: rest) a w :=
  wpList_storeA hgd ty x y ho hx (hS.vb i c hi) cs hy (by rw [hl]; exact hz) h1 (by rw [hl]; exact hn) fun w' hv' ho' => h w' (hS.set i hi (by rw [hl, hcs] at hv'; exact hv') ho') (hide ho')
end
theorem Try.fldT2 (b : Nat) (w : World) : (Instr.fieldAt 179 (.pointer (some ⟨b, 0, none⟩)) 2).run Try.prog w = .ok (.pointer (some ⟨b, 13, none⟩)) w := by kernel_rfl

set_option maxRecDepth 100000 in
set_option maxHeartbeats 6400000 in
theorem xnew {bm P n : Nat} (N : Nat) {w : World} (hF : FB w bm P n) (hI : InvOk P) (hN : N ≤ 100) :
    Calls Try.prog 128 #[.pointer (some ⟨bm, 0, none⟩), .int .i64 (N : Int)] w fun e w' => ∃ bt, e = .returned (.pointer (some ⟨bt, 0, none⟩)) ∧ TB w' bt bm P n (N : Int) (fr6 P n (N : Int)) ∧ w.heap.size ≤ bt ∧ Below w.heap.size w w' := by
  have h6 := hide (mP_le hF.lt hF.n6)
  have hP2 := hide hF.gt
  have hF := hide hF
  have hI := hide hI
  have hq0 := hide (St.start w)
  go_enter Try.func128, Try.ntmps128
  go_wp2_with (first
    | ((with_reducible refine wpList_of_wpK (o := ⟨some 12, _, _, _, _, _⟩) ?_ (wp_buildV (v := .agg (tc0 bm (z0 6) (z0 6) (z0 72)).toArray) ?_ ?_ ?_)); rfl; rfl; (exact Try.bldT bm _))
    | ((with_reducible refine boxS (o := ⟨some 13, _, _, _, _, _⟩) ?_ 179 (.tmp 12) ?_ hq0.out (tc0 bm (z0 6) (z0 6) (z0 72)) ?_ ?_); rfl; rfl; rfl; intro w1 b13 hS; have hq1 : Hid (St w w1 [⟨b13, 179, tc0 bm (z0 6) (z0 6) (z0 72)⟩]) := hide hS; clear hS))
  have hb13 := hide (hq1.out.lo 0 _ rfl)
  clear hq0
  go_loopg [15] N (fun g s15 wr => ∃ i : Nat, i + g = N ∧ s15 = .int .i64 (i : Int) ∧ St w wr [⟨b13, 179, tc0 bm (eE P n (i : Int)) (z0 6) (z0 72)⟩])
  case atStart => exact ⟨0, by omega, rfl, by rw [Int.natCast_zero, eE_zero]; exact hq1.out⟩
  case round =>
    obtain ⟨i, hig, rfl, hSr⟩ := hrel
    obtain ⟨wx, hwx⟩ : ∃ W, W = wr := ⟨_, rfl⟩
    subst hwx
    have hSr := hide hSr
    have hFr := hide (hF.out.next hSr.out.bl)
    clear hq1
    by_cases hlt : i < N
    · have iw := wrap_in ((i : Int) + 1) (by omega) (by omega)
      go_upto_region 4 with fail
      refine region_do 13 80 [fun v _ => v = .pointer (some ⟨b13, 0, none⟩), fun v _ => v = .pointer (some ⟨bm, 0, none⟩), fun v _ => v = .pointer (some ⟨b13, 0, none⟩), fun v _ => v = .pointer (some ⟨b13, 0, none⟩), fun v _ => v = .pointer (some ⟨b13, 1, none⟩), fun v _ => v = .pointer (some ⟨b13, 1, none⟩), fun v _ => v = vE (mi P n (i : Int)), fun v _ => v = .pointer (some ⟨bm, 0, none⟩), fun v _ => v = vE (mi P n 1), fun v _ => v = vE (mi P n ((i : Int) + 1)), fun v _ => v = .pointer (some ⟨b13, 0, none⟩), fun v _ => v = .pointer (some ⟨b13, 1, none⟩), fun v _ => v = .pointer (some ⟨b13, 1, none⟩)]
        [(5, .pointer (some ⟨b13, 0, none⟩)), (0, .pointer (some ⟨bm, 0, none⟩))] (fun w' => St w w' [⟨b13, 179, tc0 bm (eE P n (i : Int)) (z0 6) (z0 72)⟩] ∧ FB w' bm P n) (fun w' => True) 999 none (by kernel_rfl) (by kernel_rfl) rfl rfl
        (.cons (Fact.eq _) rfl (.cons (Fact.eq _) rfl (.cons (Fact.eq _) rfl (.cons (Fact.eq _) rfl (.cons (Fact.eq _) rfl (.cons (Fact.eq _) rfl (.cons (Fact.eq _) rfl (.cons (Fact.eq _) rfl (.cons (Fact.eq _) rfl (.cons (Fact.eq _) rfl (.cons (Fact.eq _) rfl (.cons (Fact.eq _) rfl (.cons (Fact.eq _) rfl (.nil _)))))))))))))) (fun w' h => ⟨hSr.out.next h, hFr.out.next h⟩) (fun w' h => trivial) (by kernel_rfl) (by exact ⟨rfl, rfl, trivial⟩) (.cons ?_ (.cons ?_ (.cons ?_ (.cons ?_ (.cons ?_ (.cons ?_ (.cons ?_ (.cons ?_ (.cons ?_ (.cons ?_ (.cons ?_ (.cons ?_ (.cons ?_ .nil))))))))))))) ?_
      · refine Obl.plain rfl _ rfl rfl [] (by kernel_rfl) fun a W hF hC hD K hK => ?_
        have e5 : a.tmps.getD 5 undef = .pointer (some ⟨b13, 0, none⟩) := hF.1
        clear hF hD hC
        go_simp
        exact hK _ _ rfl (Below.refl _ _)
      · refine Obl.plain rfl _ rfl rfl [] (by kernel_rfl) fun a W hF hC hD K hK => ?_
        have e0 : a.tmps.getD 0 undef = .pointer (some ⟨bm, 0, none⟩) := hF.2.1
        clear hF hD hC
        go_simp
        exact hK _ _ rfl (Below.refl _ _)
      · refine Obl.plain rfl _ rfl rfl [] (by kernel_rfl) fun a W hF hC hD K hK => ?_
        have e5 : a.tmps.getD 5 undef = .pointer (some ⟨b13, 0, none⟩) := hF.1
        clear hF hD hC
        go_simp
        exact hK _ _ rfl (Below.refl _ _)
      · refine Obl.plain rfl _ rfl rfl [2] (by kernel_rfl) fun a W hF hC hD K hK => ?_
        have e19 : a.tmps.getD 19 undef = .pointer (some ⟨b13, 0, none⟩) := hD.1
        clear hF hD hC
        go_simp
        exact hK _ _ rfl (Below.refl _ _)
      · refine Obl.plain rfl _ rfl rfl [3] (by kernel_rfl) fun a W hF hC hD K hK => ?_
        have e20 : a.tmps.getD 20 undef = .pointer (some ⟨b13, 0, none⟩) := hD.1
        clear hF hD hC
        exact wp_fld (.tmp 20) rfl e20 (Try.fldT1 _ W) (hK _ _ rfl (Below.refl _ _))
      · refine Obl.plain rfl _ rfl rfl [4] (by kernel_rfl) fun a W hF hC hD K hK => ?_
        have e21 : a.tmps.getD 21 undef = .pointer (some ⟨b13, 1, none⟩) := hD.1
        clear hF hD hC
        exact wp_idx (.tmp 21) (.const (.int .i64 0)) rfl e21 0 rfl Try.underlying123 Try.sz98 (by decide) (hK _ _ rfl (Below.refl _ _))
      · refine Obl.plain rfl _ rfl rfl [5] (by kernel_rfl) fun a W hF hC hD K hK => ?_
        obtain ⟨c1, c2⟩ := hC
        have e22 : a.tmps.getD 22 undef = .pointer (some ⟨b13, 1, none⟩) := hD.1
        clear hF hD
        exact wpLd 98 (.tmp 22) rfl (c1.vb 0 _ rfl) 1 e22 (eE P n (i : Int)) (get_mid [_] (eE P n (i : Int)) _ rfl (eE_len P n _)) (eE_len P n _) Try.underlying98 rfl Try.sz98 (hK _ _ rfl (Below.refl _ _))
      · refine Obl.plain rfl _ rfl rfl [] (by kernel_rfl) fun a W hF hC hD K hK => ?_
        have e0 : a.tmps.getD 0 undef = .pointer (some ⟨bm, 0, none⟩) := hF.2.1
        clear hF hD hC
        go_simp
        exact hK _ _ rfl (Below.refl _ _)
      · refine Obl.plain rfl _ rfl rfl [7] (by kernel_rfl) fun a W hF hC hD K hK => ?_
        obtain ⟨c1, c2⟩ := hC
        have e24 : a.tmps.getD 24 undef = .pointer (some ⟨bm, 0, none⟩) := hD.1
        clear hF hD
        exact wp_callV #[a.tmps.getD 24 undef] #[.pointer (some ⟨bm, 0, none⟩)] (vE (mi P n 1)) (by kernel_rfl) (by rw [e24]) (ione c2) (fun w' hb => hK _ _ rfl hb)
      · refine Obl.plain rfl _ rfl rfl [1, 6, 8, 8] (by kernel_rfl) fun a W hF hC hD K hK => ?_
        obtain ⟨c1, c2⟩ := hC
        have e18 : a.tmps.getD 18 undef = .pointer (some ⟨bm, 0, none⟩) := hD.1
        have e23 : a.tmps.getD 23 undef = vE (mi P n (i : Int)) := hD.2.1
        have e25 : a.tmps.getD 25 undef = vE (mi P n 1) := hD.2.2.1
        clear hF hD
        exact wp_callV #[a.tmps.getD 18 undef, a.tmps.getD 23 undef, a.tmps.getD 25 undef] #[.pointer (some ⟨bm, 0, none⟩), vE (mi P n (i : Int)), vE (mi P n 1)] (vE (mi P n ((i : Int) + 1))) (by kernel_rfl) (by rw [e18, e23, e25]) (iadd (i : Int) 1 c2) (fun w' hb => hK _ _ rfl hb)
      · refine Obl.plain rfl _ rfl rfl [0] (by kernel_rfl) fun a W hF hC hD K hK => ?_
        have e17 : a.tmps.getD 17 undef = .pointer (some ⟨b13, 0, none⟩) := hD.1
        clear hF hD hC
        go_simp
        exact hK _ _ rfl (Below.refl _ _)
      · refine Obl.plain rfl _ rfl rfl [10] (by kernel_rfl) fun a W hF hC hD K hK => ?_
        have e27 : a.tmps.getD 27 undef = .pointer (some ⟨b13, 0, none⟩) := hD.1
        clear hF hD hC
        exact wp_fld (.tmp 27) rfl e27 (Try.fldT1 _ W) (hK _ _ rfl (Below.refl _ _))
      · refine Obl.plain rfl _ rfl rfl [11, 0, 1, 2, 3, 4, 5, 6, 7, 8, 9] (by kernel_rfl) fun a W hF hC hD K hK => ?_
        have e28 : a.tmps.getD 28 undef = .pointer (some ⟨b13, 1, none⟩) := hD.1
        clear hF hD hC
        exact wp_idx (.tmp 28) (.const (.int .i64 0)) rfl e28 0 rfl Try.underlying123 Try.sz98 (by decide) (hK _ _ rfl (Below.refl _ _))
      rintro w4 hB4 hC4 _ rfl _ rfl _ rfl _ rfl _ rfl _ rfl _ rfl _ rfl _ rfl _ rfl _ rfl _ rfl _ rfl
      change Below _ _ _ at hB4
      change wpList _ _ _ _ _ _
      simp only [List.drop_succ_cons, List.drop_zero, Act.put, List.setIfInBounds_toArray, List.set_cons_zero, List.set_cons_succ]
      have hS4 := hide (hSr.out.next hB4)
      clear hB4 hC4 hSr hFr
      go_wp2_with ((with_reducible refine storeS (n := 6) (o := ⟨none, _, _, _, _, _⟩) ?_ 98 (.tmp 29) (.tmp 26) ?_ hS4.out 0 (c := ⟨b13, 179, tc0 bm (eE P n (i : Int)) (z0 6) (z0 72)⟩) ?_ 1 ?_ (eE P n ((i : Int) + 1)) ?_ ?_ ?_ Try.sz98 ?_ (tc0 bm (eE P n ((i : Int) + 1)) (z0 6) (z0 72)) ?_ ?_); rfl; rfl; rfl; rfl; rfl; rfl; rfl; (simp [tc0, eE_len, z0_len]); (exact put_mid [_] (eE P n (i : Int)) (z0 6 ++ z0 72) (eE P n ((i : Int) + 1)) rfl (eE_len P n _)); intro w5 hS; have hS5 : Hid (St w w5 [⟨b13, 179, tc0 bm (eE P n ((i : Int) + 1)) (z0 6) (z0 72)⟩]) := hide hS; clear hS)
      go_roundg (gk - 1)
      case measure => omega
      case rel => exact ⟨i + 1, by omega, by simp, by rw [Int.natCast_add, Int.natCast_one]; exact hS5.out⟩
    · obtain rfl : N = i := by omega
      go_upto_region 6 with fail
      refine region_do 6 80 [fun v _ => v = .pointer (some ⟨b13, 0, none⟩), fun v _ => v = .pointer (some ⟨bm, 0, none⟩), fun v _ => v = vE (mi P n 1), fun v _ => v = .pointer (some ⟨b13, 0, none⟩), fun v _ => v = .pointer (some ⟨b13, 1, none⟩), fun v _ => v = .pointer (some ⟨b13, 7, none⟩)]
        [(5, .pointer (some ⟨b13, 0, none⟩)), (0, .pointer (some ⟨bm, 0, none⟩))] (fun w' => FB w' bm P n) (fun w' => True) 999 none (by kernel_rfl) (by kernel_rfl) rfl rfl
        (.cons (Fact.eq _) rfl (.cons (Fact.eq _) rfl (.cons (Fact.eq _) rfl (.cons (Fact.eq _) rfl (.cons (Fact.eq _) rfl (.cons (Fact.eq _) rfl (.nil _))))))) (fun w' h => hFr.out.next h) (fun w' h => trivial) (by kernel_rfl) (by exact ⟨rfl, rfl, trivial⟩) (.cons ?_ (.cons ?_ (.cons ?_ (.cons ?_ (.cons ?_ (.cons ?_ .nil)))))) ?_
      · refine Obl.plain rfl _ rfl rfl [] (by kernel_rfl) fun a W hF hC hD K hK => ?_
        have e5 : a.tmps.getD 5 undef = .pointer (some ⟨b13, 0, none⟩) := hF.1
        clear hF hD hC
        go_simp
        exact hK _ _ rfl (Below.refl _ _)
      · refine Obl.plain rfl _ rfl rfl [] (by kernel_rfl) fun a W hF hC hD K hK => ?_
        have e0 : a.tmps.getD 0 undef = .pointer (some ⟨bm, 0, none⟩) := hF.2.1
        clear hF hD hC
        go_simp
        exact hK _ _ rfl (Below.refl _ _)
      · refine Obl.plain rfl _ rfl rfl [1] (by kernel_rfl) fun a W hF hC hD K hK => ?_
        have c1 := hC
        have e32 : a.tmps.getD 32 undef = .pointer (some ⟨bm, 0, none⟩) := hD.1
        clear hF hD
        exact wp_callV #[a.tmps.getD 32 undef] #[.pointer (some ⟨bm, 0, none⟩)] (vE (mi P n 1)) (by kernel_rfl) (by rw [e32]) (ione c1) (fun w' hb => hK _ _ rfl hb)
      · refine Obl.plain rfl _ rfl rfl [0] (by kernel_rfl) fun a W hF hC hD K hK => ?_
        have e31 : a.tmps.getD 31 undef = .pointer (some ⟨b13, 0, none⟩) := hD.1
        clear hF hD hC
        go_simp
        exact hK _ _ rfl (Below.refl _ _)
      · refine Obl.plain rfl _ rfl rfl [3] (by kernel_rfl) fun a W hF hC hD K hK => ?_
        have e34 : a.tmps.getD 34 undef = .pointer (some ⟨b13, 0, none⟩) := hD.1
        clear hF hD hC
        exact wp_fld (.tmp 34) rfl e34 (Try.fldT1 _ W) (hK _ _ rfl (Below.refl _ _))
      · refine Obl.plain rfl _ rfl rfl [4, 0, 1, 2] (by kernel_rfl) fun a W hF hC hD K hK => ?_
        have e35 : a.tmps.getD 35 undef = .pointer (some ⟨b13, 1, none⟩) := hD.1
        clear hF hD hC
        exact wp_idx (.tmp 35) (.const (.int .i64 1)) rfl e35 1 rfl Try.underlying123 Try.sz98 (by decide) (hK _ _ rfl (Below.refl _ _))
      rintro w4 hB4 hC4 _ rfl _ rfl _ rfl _ rfl _ rfl _ rfl
      change Below _ _ _ at hB4
      change wpList _ _ _ _ _ _
      simp only [List.drop_succ_cons, List.drop_zero, Act.put, List.setIfInBounds_toArray, List.set_cons_zero, List.set_cons_succ]
      have hS4 := hide (hSr.out.next hB4)
      clear hB4 hC4 hSr
      go_upto_region 8 with (first
        | ((with_reducible refine storeS (n := 6) (o := ⟨none, _, _, _, _, _⟩) ?_ 98 (.tmp 36) (.tmp 33) ?_ hS4.out 0 (c := ⟨b13, 179, tc0 bm (eE P n (N : Int)) (z0 6) (z0 72)⟩) ?_ 7 ?_ (eE P n 1) ?_ ?_ ?_ Try.sz98 ?_ (tc0 bm (eE P n (N : Int)) (eE P n 1) (z0 72)) ?_ ?_); rfl; rfl; rfl; rfl; rfl; rfl; rfl; (simp [tc0, eE_len, z0_len]); (exact put_mid (.pointer (some ⟨bm, 0, none⟩) :: eE P n (N : Int)) (z0 6) (z0 72) (eE P n 1) rfl rfl); intro w5 hS; have hS5 : Hid (St w w5 [⟨b13, 179, tc0 bm (eE P n (N : Int)) (eE P n 1) (z0 72)⟩]) := hide hS; have hF5 := hide (hF.out.next hS.bl); clear hS)
        | (go_at_call 67; refine (mprime_any bm P n w5 hF5.out).mono ?_; rintro e w6 ⟨rfl, hb6⟩; have hS6 := hide (hS5.out.next hb6); clear hb6)
        | ((with_reducible refine allocS (o := ⟨some 6, _, _, _, _, _⟩) ?_ 98 ?_ hS6.out (ve 0) Try.zr98 ?_); rfl; rfl; intro w7 b6 hS; have hS7 : Hid (St w w7 [⟨b13, 179, tc0 bm (eE P n (N : Int)) (eE P n 1) (z0 72)⟩, ⟨b6, 98, ve 0⟩]) := hide hS; clear hS)
        | ((with_reducible refine storeWS (n := 6) (o := ⟨none, _, _, _, _, _⟩) ?_ 98 (.tmp 6) (.tmp 38) ?_ hS7.out 1 (c := ⟨b6, 98, ve 0⟩) ?_ ?_ (ve P) ?_ ?_ ?_ ?_ Try.sz98 ?_); rfl; rfl; rfl; rfl; rfl; rfl; rfl; rfl; intro w8 hS hO; clear hO; have hS8 : Hid (St w w8 [⟨b13, 179, tc0 bm (eE P n (N : Int)) (eE P n 1) (z0 72)⟩, ⟨b6, 98, ve P⟩]) := hide hS; clear hS))
      clear hS4 hS5 hS6 hS7 hF5
      have hv6 := hS8.out.vb 1 _ rfl
      go_wp2_with fail
      have hbA : Below w8.heap.size w8 (w8.alloc (.cells #[.int .u64 1] 22)) := below_alloc (Below.refl _ _) _
      have hk1 : Blk (w8.alloc (.cells #[.int .u64 1] 22)) w8.heap.size 22 .u64 [1] := Blk.new w8 .u64 22 [1]
      refine (sub_ve (hv6.next hbA) h6.out hk1 (by decide) (Nat.le_of_lt hP2.out)).mono ?_
      rintro e w9 ⟨A9, c9, rfl, hc9, hr9, hb9⟩
      have hS9 := hide (hS8.out.next (below_next hbA hb9))
      clear hbA hk1 hb9 hv6 hS8
      go_wp2_with fail
      have hbA : Below w9.heap.size w9 (w9.alloc (.cells #[.int .u64 6] 22)) := below_alloc (Below.refl _ _) _
      have hk6 : Blk (w9.alloc (.cells #[.int .u64 6] 22)) w9.heap.size 22 .u64 [6] := Blk.new w9 .u64 22 [6]
      refine (div_six (hr9.below hbA) hc9 (by have := h6.out; omega) (by have := hP2.out; omega) hk6).mono ?_
      rintro e wq ⟨bq, oq, cq, Ar, cr, rfl, hlo, hcq, hcr, hrq, hrr, hbq⟩
      have hSq := hide (hS9.out.next (below_next hbA hbq))
      have hnq := hide (show bq ≠ b13 by
        have h1 := (hS9.out.vb 0 _ rfl).lt
        have h2 := hbA.size
        have h3 : b13 < w9.heap.size := h1
        omega)
      have hFq := hide (hF.out.next hSq.out.bl)
      have hcq := hide hcq
      have hrq := hide hrq
      have hlq := hide (show (digs B64 ((P - 1) / 6)).length ≤ 6 from digs_length_le B64_ge (Nat.lt_of_le_of_lt (Nat.le_trans (Nat.div_le_self _ _) (Nat.sub_le _ _)) h6.out))
      clear hbA hk6 hr9 hc9 hlo hbq hrr hcr hS9
      go_upto_region 9 with fail
      refine region_do 6 80 [fun v _ => v = .pointer (some ⟨b13, 0, none⟩), fun v _ => v = .pointer (some ⟨b13, 0, none⟩), fun v _ => v = .agg (m2 P n Z2.one).toArray, fun v _ => v = .pointer (some ⟨b13, 0, none⟩), fun v _ => v = .pointer (some ⟨b13, 13, none⟩), fun v _ => v = .pointer (some ⟨b13, 13, none⟩)]
        [(5, .pointer (some ⟨b13, 0, none⟩))] (fun w' => TB w' b13 bm P n (N : Int) (z0 72)) (fun w' => True) 999 none (by kernel_rfl) (by kernel_rfl) rfl rfl
        (.cons (Fact.eq _) rfl (.cons (Fact.eq _) rfl (.cons (Fact.eq _) rfl (.cons (Fact.eq _) rfl (.cons (Fact.eq _) rfl (.cons (Fact.eq _) rfl (.nil _))))))) (fun w' h => ⟨(hSq.out.next h).vb 0 _ rfl, hFq.out.next h⟩) (fun w' h => trivial) (by kernel_rfl) (by exact ⟨rfl, trivial⟩) (.cons ?_ (.cons ?_ (.cons ?_ (.cons ?_ (.cons ?_ (.cons ?_ .nil)))))) ?_
      · refine Obl.plain rfl _ rfl rfl [] (by kernel_rfl) fun a W hF hC hD K hK => ?_
        have e5 : a.tmps.getD 5 undef = .pointer (some ⟨b13, 0, none⟩) := hF.1
        clear hF hD hC
        go_simp
        exact hK _ _ rfl (Below.refl _ _)
      · refine Obl.plain rfl _ rfl rfl [] (by kernel_rfl) fun a W hF hC hD K hK => ?_
        have e5 : a.tmps.getD 5 undef = .pointer (some ⟨b13, 0, none⟩) := hF.1
        clear hF hD hC
        go_simp
        exact hK _ _ rfl (Below.refl _ _)
      · refine Obl.plain rfl _ rfl rfl [1] (by kernel_rfl) fun a W hF hC hD K hK => ?_
        have c1 := hC
        have e48 : a.tmps.getD 48 undef = .pointer (some ⟨b13, 0, none⟩) := hD.1
        clear hF hD
        exact wp_callV #[a.tmps.getD 48 undef] #[.pointer (some ⟨b13, 0, none⟩)] (.agg (m2 P n Z2.one).toArray) (by kernel_rfl) (by rw [e48]) (xone2 c1 hI.out) (fun w' hb => hK _ _ rfl hb)
      · refine Obl.plain rfl _ rfl rfl [0] (by kernel_rfl) fun a W hF hC hD K hK => ?_
        have e47 : a.tmps.getD 47 undef = .pointer (some ⟨b13, 0, none⟩) := hD.1
        clear hF hD hC
        go_simp
        exact hK _ _ rfl (Below.refl _ _)
      · refine Obl.plain rfl _ rfl rfl [3] (by kernel_rfl) fun a W hF hC hD K hK => ?_
        have e50 : a.tmps.getD 50 undef = .pointer (some ⟨b13, 0, none⟩) := hD.1
        clear hF hD hC
        exact wp_fld (.tmp 50) rfl e50 (Try.fldT2 _ W) (hK _ _ rfl (Below.refl _ _))
      · refine Obl.plain rfl _ rfl rfl [4, 0, 1, 2] (by kernel_rfl) fun a W hF hC hD K hK => ?_
        have e51 : a.tmps.getD 51 undef = .pointer (some ⟨b13, 13, none⟩) := hD.1
        clear hF hD hC
        exact wp_idx (.tmp 51) (.const (.int .i64 0)) rfl e51 0 rfl Try.underlying177 Try.szE2 (by decide) (hK _ _ rfl (Below.refl _ _))
      rintro wr9 hB9 hC9 _ rfl _ rfl _ rfl _ rfl _ rfl _ rfl
      change Below _ _ _ at hB9
      change wpList _ _ _ _ _ _
      simp only [List.drop_succ_cons, List.drop_zero, Act.put, List.setIfInBounds_toArray, List.set_cons_zero, List.set_cons_succ]
      have hSa := hide (hSq.out.next hB9)
      have hra := hide (hrq.out.below hB9)
      clear hB9 hC9 hSq hrq hFq
      go_upto_region 10 with ((with_reducible refine storeSO (n := 12) (o := ⟨none, _, _, _, _, _⟩) ?_ 123 (.tmp 52) (.tmp 49) ?_ hSa.out 0 (c := ⟨b13, 179, tc0 bm (eE P n (N : Int)) (eE P n 1) (z0 72)⟩) ?_ 13 ?_ (m2 P n Z2.one) ?_ ?_ ?_ Try.szE2 ?_ (tc0 bm (eE P n (N : Int)) (eE P n 1) (frs P n (fbk P (N : Int)) 1 ++ z0 60)) ?_ ?_); rfl; rfl; rfl; rfl; rfl; rfl; rfl; (rw [tc_len bm (eE_len P n _) (eE_len P n _), z0_len]; decide); (exact tc_put bm (eE_len P n _) (eE_len P n _) P n (fbk P (N : Int)) (k := 0) (by decide)); intro wb hS hO; have hSb : Hid (St w wb [⟨b13, 179, tc0 bm (eE P n (N : Int)) (eE P n 1) (frs P n (fbk P (N : Int)) 1 ++ z0 60)⟩, ⟨b6, 98, ve P⟩]) := hide hS; have hrb := hide (hra.out.only hO.out hnq.out); clear hS hO)
      have hTb : Hid (TB wb b13 bm P n (N : Int) (frs P n (fbk P (N : Int)) 1 ++ z0 60)) := hide ⟨hSb.out.vb 0 _ rfl, hF.out.next hSb.out.bl⟩
      have hexp := xexp2 (xi (N : Int)) (some ⟨bq, oq, none⟩) cq (digs B64 ((P - 1) / 6)) hTb.out hI.out hrb.out hcq.out (by have := hlq.out; omega) (digs_ok B64_ge _)
      rw [val_digs B64_ge] at hexp
      replace hexp := hide hexp
      clear hSa hra hrb
      go_upto_region 12 with (first
        | ((with_reducible refine loadS (n := 12) (o := ⟨some 57, _, _, _, _, _⟩) ?_ 123 (.tmp 56) ?_ hSb.out 0 (c := ⟨b13, 179, tc0 bm (eE P n (N : Int)) (eE P n 1) (frs P n (fbk P (N : Int)) 1 ++ z0 60)⟩) ?_ 1 ?_ (m2 P n (xi (N : Int))) ?_ (m2_len P n _) Try.underlying123 rfl Try.szE2 ?_); rfl; rfl; rfl; rfl; (exact tc_x bm P n (N : Int) (frs P n (fbk P (N : Int)) 1 ++ z0 60)))
        | (go_at_call 145; refine hexp.out.mono ?_; rintro e wc ⟨rfl, hbc⟩; have hSc := hide (hSb.out.next hbc); clear hbc)
        | ((with_reducible refine allocS (o := ⟨some 9, _, _, _, _, _⟩) ?_ 123 ?_ hSc.out (z0 12) Try.zrE2 ?_); rfl; rfl; intro wd b9 hS; have hSd : Hid (St w wd [⟨b13, 179, tc0 bm (eE P n (N : Int)) (eE P n 1) (frs P n (fbk P (N : Int)) 1 ++ z0 60)⟩, ⟨b6, 98, ve P⟩, ⟨b9, 123, z0 12⟩]) := hide hS; clear hS)
        | ((with_reducible refine storeWS (n := 12) (o := ⟨none, _, _, _, _, _⟩) ?_ 123 (.tmp 9) (.tmp 59) ?_ hSd.out 2 (c := ⟨b9, 123, z0 12⟩) ?_ ?_ (m2 P n (Z2.pow (xi (N : Int)) (sxt P))) ?_ ?_ ?_ ?_ Try.szE2 ?_); rfl; rfl; rfl; rfl; rfl; rfl; rfl; rfl; intro we hS hO; clear hO; have hSe : Hid (St w we [⟨b13, 179, tc0 bm (eE P n (N : Int)) (eE P n 1) (frs P n (fbk P (N : Int)) 1 ++ z0 60)⟩, ⟨b6, 98, ve P⟩, ⟨b9, 123, m2 P n (Z2.pow (xi (N : Int)) (sxt P))⟩]) := hide hS; clear hS))
      clear hSb hSc hSd hTb hexp
      go_loopg [10] 5 (fun g s10 wr => ∃ j : Nat, j + g = 5 ∧ s10 = .int .i64 ((j + 1 : Nat) : Int) ∧ St w wr [⟨b13, 179, tc0 bm (eE P n (N : Int)) (eE P n 1) (frs P n (fbk P (N : Int)) (j + 1) ++ z0 (72 - 12 * (j + 1)))⟩, ⟨b6, 98, ve P⟩, ⟨b9, 123, m2 P n (Z2.pow (xi (N : Int)) (sxt P))⟩])
      case atStart => exact ⟨0, by omega, rfl, hSe.out⟩
      case round =>
        obtain ⟨j, hjg, rfl, hSr⟩ := hrel
        obtain ⟨wx, hwx⟩ : ∃ W, W = wr := ⟨_, rfl⟩
        subst hwx
        have hSr := hide hSr
        have hFr := hide (hF.out.next hSr.out.bl)
        clear hSe
        have j5 : j ≤ 5 := by omega
        by_cases hlt : j < 5
        · have iw := wrap_in (((j + 1 : Nat) : Int) + 1) (by omega) (by omega)
          have iw2 : IntKind.i64.wrap (j : Int) = (j : Int) := wrap_in _ (by omega) (by omega)
          have hd : decide (((j + 1 : Nat) : Int) < 6) = true := by simp; omega
          go_upto_region 14 with fail
          refine region_do 15 80 [fun v _ => v = .pointer (some ⟨b13, 0, none⟩), fun v _ => v = .int .i64 ((j + 1 : Nat) : Int), fun v _ => v = .pointer (some ⟨b13, 0, none⟩), fun v _ => v = .pointer (some ⟨b13, 0, none⟩), fun v _ => v = .int .i64 ((j + 1 : Nat) : Int), fun v _ => v = .int .i64 (j : Int), fun v _ => v = .pointer (some ⟨b13, 0, none⟩), fun v _ => v = .pointer (some ⟨b13, 13, none⟩), fun v _ => v = .pointer (some ⟨b13, 13 + j * 12, none⟩), fun v _ => v = .agg (m2 P n (fbk P (N : Int) j)).toArray, fun v _ => v = .agg (m2 P n (Z2.pow (xi (N : Int)) (sxt P))).toArray, fun v _ => v = .agg (m2 P n (fbk P (N : Int) (j + 1))).toArray, fun v _ => v = .pointer (some ⟨b13, 0, none⟩), fun v _ => v = .pointer (some ⟨b13, 13, none⟩), fun v _ => v = .pointer (some ⟨b13, 13 + (j + 1) * 12, none⟩)]
            [(5, .pointer (some ⟨b13, 0, none⟩)), (10, .int .i64 ((j + 1 : Nat) : Int)), (9, .pointer (some ⟨b9, 0, none⟩))] (fun w' => St w w' [⟨b13, 179, tc0 bm (eE P n (N : Int)) (eE P n 1) (frs P n (fbk P (N : Int)) (j + 1) ++ z0 (72 - 12 * (j + 1)))⟩, ⟨b6, 98, ve P⟩, ⟨b9, 123, m2 P n (Z2.pow (xi (N : Int)) (sxt P))⟩] ∧ TB w' b13 bm P n (N : Int) (frs P n (fbk P (N : Int)) (j + 1) ++ z0 (72 - 12 * (j + 1)))) (fun w' => True) 999 none (by kernel_rfl) (by kernel_rfl) rfl rfl
            (.cons (Fact.eq _) rfl (.cons (Fact.eq _) rfl (.cons (Fact.eq _) rfl (.cons (Fact.eq _) rfl (.cons (Fact.eq _) rfl (.cons (Fact.eq _) rfl (.cons (Fact.eq _) rfl (.cons (Fact.eq _) rfl (.cons (Fact.eq _) rfl (.cons (Fact.eq _) rfl (.cons (Fact.eq _) rfl (.cons (Fact.eq _) rfl (.cons (Fact.eq _) rfl (.cons (Fact.eq _) rfl (.cons (Fact.eq _) rfl (.nil _)))))))))))))))) (fun w' h => ⟨hSr.out.next h, ⟨(hSr.out.next h).vb 0 _ rfl, hFr.out.next h⟩⟩) (fun w' h => trivial) (by kernel_rfl) (by exact ⟨rfl, rfl, rfl, trivial⟩) (.cons ?_ (.cons ?_ (.cons ?_ (.cons ?_ (.cons ?_ (.cons ?_ (.cons ?_ (.cons ?_ (.cons ?_ (.cons ?_ (.cons ?_ (.cons ?_ (.cons ?_ (.cons ?_ (.cons ?_ .nil))))))))))))))) ?_
          · refine Obl.plain rfl _ rfl rfl [] (by kernel_rfl) fun a W hF hC hD K hK => ?_
            have e5 : a.tmps.getD 5 undef = .pointer (some ⟨b13, 0, none⟩) := hF.1
            clear hF hD hC
            go_simp
            exact hK _ _ rfl (Below.refl _ _)
          · refine Obl.plain rfl _ rfl rfl [] (by kernel_rfl) fun a W hF hC hD K hK => ?_
            have e10 : a.tmps.getD 10 undef = .int .i64 ((j + 1 : Nat) : Int) := hF.2.1
            clear hF hD hC
            go_simp
            exact hK _ _ rfl (Below.refl _ _)
          · refine Obl.plain rfl _ rfl rfl [] (by kernel_rfl) fun a W hF hC hD K hK => ?_
            have e5 : a.tmps.getD 5 undef = .pointer (some ⟨b13, 0, none⟩) := hF.1
            clear hF hD hC
            go_simp
            exact hK _ _ rfl (Below.refl _ _)
          · refine Obl.plain rfl _ rfl rfl [] (by kernel_rfl) fun a W hF hC hD K hK => ?_
            have e5 : a.tmps.getD 5 undef = .pointer (some ⟨b13, 0, none⟩) := hF.1
            clear hF hD hC
            go_simp
            exact hK _ _ rfl (Below.refl _ _)
          · refine Obl.plain rfl _ rfl rfl [] (by kernel_rfl) fun a W hF hC hD K hK => ?_
            have e10 : a.tmps.getD 10 undef = .int .i64 ((j + 1 : Nat) : Int) := hF.2.1
            clear hF hD hC
            go_simp
            exact hK _ _ rfl (Below.refl _ _)
          · refine Obl.plain rfl _ rfl rfl [4] (by kernel_rfl) fun a W hF hC hD K hK => ?_
            have e68 : a.tmps.getD 68 undef = .int .i64 ((j + 1 : Nat) : Int) := hD.1
            clear hF hD hC
            go_simp; exact hK _ _ rfl (Below.refl _ _)
          · refine Obl.plain rfl _ rfl rfl [3] (by kernel_rfl) fun a W hF hC hD K hK => ?_
            have e67 : a.tmps.getD 67 undef = .pointer (some ⟨b13, 0, none⟩) := hD.1
            clear hF hD hC
            go_simp
            exact hK _ _ rfl (Below.refl _ _)
          · refine Obl.plain rfl _ rfl rfl [6] (by kernel_rfl) fun a W hF hC hD K hK => ?_
            have e70 : a.tmps.getD 70 undef = .pointer (some ⟨b13, 0, none⟩) := hD.1
            clear hF hD hC
            exact wp_fld (.tmp 70) rfl e70 (Try.fldT2 _ W) (hK _ _ rfl (Below.refl _ _))
          · refine Obl.plain rfl _ rfl rfl [7, 5] (by kernel_rfl) fun a W hF hC hD K hK => ?_
            have e71 : a.tmps.getD 71 undef = .pointer (some ⟨b13, 13, none⟩) := hD.1
            have e69 : a.tmps.getD 69 undef = .int .i64 (j : Int) := hD.2.1
            clear hF hD hC
            exact wp_idx (.tmp 71) (.tmp 69) rfl e71 j e69 Try.underlying177 Try.szE2 (by omega) (hK _ _ rfl (Below.refl _ _))
          · refine Obl.plain rfl _ rfl rfl [8] (by kernel_rfl) fun a W hF hC hD K hK => ?_
            obtain ⟨c1, c2⟩ := hC
            have e72 : a.tmps.getD 72 undef = .pointer (some ⟨b13, 13 + j * 12, none⟩) := hD.1
            clear hF hD
            exact wpLd 123 (.tmp 72) rfl (c1.vb 0 _ rfl) (13 + j * 12) e72 (m2 P n (fbk P (N : Int) j)) (tc_get bm (eE_len P n _) (eE_len P n _) P n (fbk P (N : Int)) j _) (m2_len P n _) Try.underlying123 rfl Try.szE2 (hK _ _ rfl (Below.refl _ _))
          · refine Obl.plain rfl _ rfl rfl [] (by kernel_rfl) fun a W hF hC hD K hK => ?_
            obtain ⟨c1, c2⟩ := hC
            have e9 : a.tmps.getD 9 undef = .pointer (some ⟨b9, 0, none⟩) := hF.2.2.1
            clear hF hD
            exact wpLd 123 (.tmp 9) rfl (c1.vb 2 _ rfl) 0 e9 (m2 P n (Z2.pow (xi (N : Int)) (sxt P))) (part_all _ (m2_len P n _)) (m2_len P n _) Try.underlying123 rfl Try.szE2 (hK _ _ rfl (Below.refl _ _))
          · refine Obl.plain rfl _ rfl rfl [2, 9, 10] (by kernel_rfl) fun a W hF hC hD K hK => ?_
            obtain ⟨c1, c2⟩ := hC
            have e66 : a.tmps.getD 66 undef = .pointer (some ⟨b13, 0, none⟩) := hD.1
            have e73 : a.tmps.getD 73 undef = .agg (m2 P n (fbk P (N : Int) j)).toArray := hD.2.1
            have e74 : a.tmps.getD 74 undef = .agg (m2 P n (Z2.pow (xi (N : Int)) (sxt P))).toArray := hD.2.2.1
            clear hF hD
            exact wp_callV #[a.tmps.getD 66 undef, a.tmps.getD 73 undef, a.tmps.getD 74 undef] #[.pointer (some ⟨b13, 0, none⟩), .agg (m2 P n (fbk P (N : Int) j)).toArray, .agg (m2 P n (Z2.pow (xi (N : Int)) (sxt P))).toArray] (.agg (m2 P n (fbk P (N : Int) (j + 1))).toArray) (by kernel_rfl) (by rw [e66, e73, e74]) (xmul2 (fbk P (N : Int) j) (Z2.pow (xi (N : Int)) (sxt P)) c2 hI.out) (fun w' hb => hK _ _ rfl hb)
          · refine Obl.plain rfl _ rfl rfl [0] (by kernel_rfl) fun a W hF hC hD K hK => ?_
            have e64 : a.tmps.getD 64 undef = .pointer (some ⟨b13, 0, none⟩) := hD.1
            clear hF hD hC
            go_simp
            exact hK _ _ rfl (Below.refl _ _)
          · refine Obl.plain rfl _ rfl rfl [12] (by kernel_rfl) fun a W hF hC hD K hK => ?_
            have e76 : a.tmps.getD 76 undef = .pointer (some ⟨b13, 0, none⟩) := hD.1
            clear hF hD hC
            exact wp_fld (.tmp 76) rfl e76 (Try.fldT2 _ W) (hK _ _ rfl (Below.refl _ _))
          · refine Obl.plain rfl _ rfl rfl [13, 1, 0, 1, 2, 3, 4, 5, 6, 7, 8, 9, 10, 11] (by kernel_rfl) fun a W hF hC hD K hK => ?_
            have e77 : a.tmps.getD 77 undef = .pointer (some ⟨b13, 13, none⟩) := hD.1
            have e65 : a.tmps.getD 65 undef = .int .i64 ((j + 1 : Nat) : Int) := hD.2.1
            clear hF hD hC
            exact wp_idx (.tmp 77) (.tmp 65) rfl e77 (j + 1) e65 Try.underlying177 Try.szE2 (by omega) (hK _ _ rfl (Below.refl _ _))
          rintro wz hBz hCz _ rfl _ rfl _ rfl _ rfl _ rfl _ rfl _ rfl _ rfl _ rfl _ rfl _ rfl _ rfl _ rfl _ rfl _ rfl
          change Below _ _ _ at hBz
          change wpList _ _ _ _ _ _
          simp only [List.drop_succ_cons, List.drop_zero, Act.put, List.setIfInBounds_toArray, List.set_cons_zero, List.set_cons_succ]
          have hSz := hide (hSr.out.next hBz)
          clear hBz hCz hSr hFr
          go_wp2_with ((with_reducible refine storeS (n := 12) (o := ⟨none, _, _, _, _, _⟩) ?_ 123 (.tmp 78) (.tmp 75) ?_ hSz.out 0 (c := ⟨b13, 179, tc0 bm (eE P n (N : Int)) (eE P n 1) (frs P n (fbk P (N : Int)) (j + 1) ++ z0 (72 - 12 * (j + 1)))⟩) ?_ (13 + (j + 1) * 12) ?_ (m2 P n (fbk P (N : Int) (j + 1))) ?_ ?_ ?_ Try.szE2 ?_ (tc0 bm (eE P n (N : Int)) (eE P n 1) (frs P n (fbk P (N : Int)) (j + 1 + 1) ++ z0 (72 - 12 * (j + 1 + 1)))) ?_ ?_); rfl; rfl; rfl; rfl; rfl; rfl; rfl; (rw [tc_len bm (eE_len P n _) (eE_len P n _), List.length_append, frs_len, z0_len]; omega); (exact tc_put bm (eE_len P n _) (eE_len P n _) P n (fbk P (N : Int)) (k := j + 1) (by omega)); intro w5 hS; have hS5 : Hid (St w w5 [⟨b13, 179, tc0 bm (eE P n (N : Int)) (eE P n 1) (frs P n (fbk P (N : Int)) (j + 1 + 1) ++ z0 (72 - 12 * (j + 1 + 1)))⟩, ⟨b6, 98, ve P⟩, ⟨b9, 123, m2 P n (Z2.pow (xi (N : Int)) (sxt P))⟩]) := hide hS; clear hS)
          go_roundg (gk - 1)
          case measure => omega
          case rel => exact ⟨j + 1, by omega, by simp, hS5.out⟩
        · obtain rfl : j = 5 := by omega
          go_wp2_with fail
          go_ret
          have hvb := hSr.out.vb 0 _ rfl
          exact ⟨b13, rfl, ⟨by rw [show (frs P n (fbk P (N : Int)) 6 ++ z0 (72 - 12 * 6)) = fr6 P n (N : Int) from List.append_nil _] at hvb; exact hvb, hFr.out⟩, hSr.out.lo 0 _ rfl, hSr.out.bl⟩
end Go.Proofs.Ytincemkjdgbnnaa
