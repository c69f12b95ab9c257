/- Walks: package field: Modulus, Size, Reduce, In, Out. -/
import Derived.Test.YtincemkjdgbnnaaMontE
set_option linter.unusedVariables false
set_option linter.unusedSimpArgs false
namespace Go.Proofs.Ytincemkjdgbnnaa
open Go.RowKit Lm

/-- a field: the block of its struct, and its Montgomery field. -/
structure FQ (w : World) (b bm P n size : Nat) : Prop where
  vb : VB w b 101 [.pointer (some ⟨bm, 0, none⟩), .int .i64 (size : Int)]
  fb : FB w bm P n
  inv : InvOk P
theorem FQ.next {w w' : World} {b bm P n size : Nat} (h : FQ w b bm P n size) (hb : Below w.heap.size w w') : FQ w' b bm P n size := ⟨h.vb.next hb, h.fb.next hb, h.inv⟩
theorem FQ.only {w w' : World} {b bm P n size b' : Nat} (h : FQ w b bm P n size) (ho : Only w w' b') (h1 : b ≠ b') (h2 : bm ≠ b') : FQ w' b bm P n size := ⟨ho.vb h.vb h1, h.fb.only ho h2, h.inv⟩
theorem FQ.drew {w : World} {b bm P n size : Nat} (h : FQ w b bm P n size) : FQ w.drew b bm P n size := ⟨h.vb.drew, h.fb.drew, h.inv⟩
theorem FQ.cellM {w : World} {b bm P n size : Nat} (h : FQ w b bm P n size) : w.cell? ⟨b, 0, none⟩ = some (.pointer (some ⟨bm, 0, none⟩)) := (h.vb.cell 0).trans rfl
theorem FQ.cellS {w : World} {b bm P n size : Nat} (h : FQ w b bm P n size) : w.cell? ⟨b, 1, none⟩ = some (.int .i64 (size : Int)) := (h.vb.cell 1).trans rfl
theorem FQ.pos {w : World} {b bm P n size : Nat} (h : FQ w b bm P n size) : 0 < P := by have := h.fb.gt; omega
theorem FQ.lt6 {w : World} {b bm P n size : Nat} (h : FQ w b bm P n size) : P < B64 ^ 6 := mP_le h.fb.lt h.fb.n6

theorem ve_rd {w : World} {b x : Nat} {t : TypeId} (h : VB w b t (ve x)) : Rd w .u64 (some ⟨b, 0, none⟩) (fix B64 6 x) := fun _ => ⟨_, _, rfl, (VB.to_blk h).row0⟩
/-- two elements, or numbers, are compared. -/
theorem cmp_ve {w : World} {b b' x y : Nat} {t t' : TypeId} (h : VB w b t (ve x)) (h' : VB w b' t' (ve y)) (hx : x < B64 ^ 6) (hy : y < B64 ^ 6) :
    Calls Try.prog 68 #[.slice (some ⟨b, 0, none⟩) 6 6, .slice (some ⟨b', 0, none⟩) 6 6] w fun e w' => e = .returned (.int .i64 (cmpI x y)) ∧ Below w.heap.size w w' := by
  have h := cmp_any (some ⟨b, 0, none⟩) (some ⟨b', 0, none⟩) 6 6 (fix B64 6 x) (fix B64 6 y) w (ve_rd h) (by rw [fix_length]; exact Nat.le_refl _) (by rw [fix_length]; unfold lim; omega) (fix_ok B64_pos _ _)
    (ve_rd h') (by rw [fix_length]; exact Nat.le_refl _) (by rw [fix_length]; unfold lim; omega) (fix_ok B64_pos _ _)
  rw [fix_length, fix_length, val_fix_of_lt hx, val_fix_of_lt hy] at h
  exact h
theorem divmod_ve {w : World} {b b' x y : Nat} {t t' : TypeId} (h : VB w b t (ve x)) (h' : VB w b' t' (ve y)) (hx : x < B64 ^ 6) (hy : y < B64 ^ 6) (hy0 : y ≠ 0) :
    Calls Try.prog 69 #[.slice (some ⟨b, 0, none⟩) 6 6, .slice (some ⟨b', 0, none⟩) 6 6] w (RetDM w (x / y) (x % y)) := by
  have h := divmod_any (some ⟨b, 0, none⟩) (some ⟨b', 0, none⟩) 6 6 (fix B64 6 x) (fix B64 6 y) w (ve_rd h) (by rw [fix_length]; exact Nat.le_refl _) (by rw [fix_length]; unfold lim; omega) (fix_ok B64_pos _ _)
    (ve_rd h') (by rw [fix_length]; exact Nat.le_refl _) (by rw [fix_length]; unfold lim; omega) (fix_ok B64_pos _ _) (by rw [val_fix_of_lt hy]; exact hy0)
  rw [fix_length, fix_length, val_fix_of_lt hx, val_fix_of_lt hy] at h
  exact h
/-- two slices, as DivMod hands them back. -/
def RetTwo (q r : Nat) (v : Value) (w : World) : Prop := ∃ A c A' c', v = .tuple #[.slice A (digs B64 q).length c, .slice A' (digs B64 r).length c'] ∧ (digs B64 q).length ≤ c ∧ (digs B64 r).length ≤ c' ∧ Rd w .u64 A (digs B64 q) ∧ Rd w .u64 A' (digs B64 r)
theorem RetTwo.next {q r : Nat} {v : Value} {w w' : World} (h : RetTwo q r v w) (hb : Below w.heap.size w w') : RetTwo q r v w' := by
  obtain ⟨A, c, A', c', h1, h2, h3, h4, h5⟩ := h
  exact ⟨A, c, A', c', h1, h2, h3, h4.below hb, h5.below hb⟩
/-- a number's digits go into an array of zeros. -/
theorem copyE {w : World} {b r c : Nat} {t : TypeId} {A : Option Addr} (hv : VB w b t (ve 0)) (hr : Rd w .u64 A (digs B64 r)) (h6 : r < B64 ^ 6) :
    ∃ w', (Builtin.copy_ #[104, 104] 3 #[.slice (some ⟨b, 0, none⟩) 6 6, .slice A (digs B64 r).length c]).run Try.prog w = .ok (goInt ((digs B64 r).length : Int)) w' ∧ VB w' b t (ve r) ∧ Only w w' b := by
  have hl := digs_length_le B64_ge h6
  obtain ⟨w', h1, h2, h3⟩ := copy_v (P := Try.prog) (dT := 104) (sT := 104) (ty := 3) (off := 0) (dLen := 6) (dCap := 6) (sCap := c) Try.underlying104 (by kernel_rfl) hv hr (by rw [ve_length]; exact Nat.le_refl _)
  have hz : ve 0 = [] ++ (nums .u64 (List.replicate 6 0) ++ []) := rfl
  rw [hz, fill6 (pre := []) (R := []) (off := 0) (digs_ok B64_ge r) hl rfl, val_digs B64_ge] at h2
  rw [Nat.min_eq_left hl] at h1
  refine ⟨w', h1, ?_, h3⟩
  rw [List.nil_append, List.append_nil] at h2
  exact h2

set_option maxRecDepth 100000 in
theorem fmodulus_c (b bm P n size : Nat) (w : World) (hF : FQ w b bm P n size) :
    Calls Try.prog 30 #[.pointer (some ⟨b, 0, none⟩)] w fun e w' => e = .returned (vE P) ∧ Below w.heap.size w w' := by
  go_enter Try.func30, Try.ntmps30
  have hF := hide hF
  go_upto_region 1 with ((with_reducible refine allocT 24 (o := ⟨some 2, _, _, _, _, _⟩) ?_ ?_ Try.zr24 ?_); rfl; rfl; intro w1 b1 hv1 hn1)
  have hF1 := hide (hF.out.next hn1.bl)
  have c0 := hF1.out.cellM
  go_wp2_with (first
    | (go_at_call 67; refine (mprime_any bm P n w1 hF1.out.fb).mono ?_; rintro e w2 ⟨rfl, hb2⟩; replace hb2 := hide hb2)
    | ((with_reducible refine storeT 24 (v' := P) (o := ⟨none, _, _, _, _, _⟩) ?_ (.tmp 2) (.tmp 7) ?_ ?_ ?_ (hv1.next hb2.out) Try.sz24 ?_); rfl; rfl; rfl; rfl; intro w6 hv6 ho6))
  exact retT 24 rfl rfl hv6 Try.underlying24 rfl Try.sz24 rfl ⟨rfl, Only.below (below_next hn1.bl hb2.out) ho6.out hn1.lo⟩

theorem fsize_c (b bm P n size : Nat) (w : World) (hF : FQ w b bm P n size) :
    Calls Try.prog 31 #[.pointer (some ⟨b, 0, none⟩)] w fun e w' => e = .returned (.int .i64 (size : Int)) ∧ w' = w := by
  go_enter Try.func31, Try.ntmps31
  have c1 := hF.cellS
  have hF := hide hF
  go_wp2_with fail
  go_ret
  exact ⟨rfl, rfl⟩

set_option maxRecDepth 100000 in
set_option maxHeartbeats 1600000 in
theorem freduce_c (b bm P n size x : Nat) (w : World) (hF : FQ w b bm P n size) (hx : x < B64 ^ 6) :
    Calls Try.prog 18 #[.pointer (some ⟨b, 0, none⟩), vE x] w fun e w' => e = .returned (vE (x % P)) ∧ Below w.heap.size w w' := by
  go_enter Try.func18, Try.ntmps18
  have hF := hide hF
  have hx := hide hx
  go_upto_region 1 with (first
    | ((with_reducible refine boxT 24 (o := ⟨some 3, _, _, _, _, _⟩) ?_ (.tmp 1) ?_ (v := x) ?_ ?_); rfl; rfl; rfl; intro w1 b1 hv1 hn1)
    | ((with_reducible refine allocT 24 (o := ⟨some 4, _, _, _, _, _⟩) ?_ ?_ Try.zr24 ?_); rfl; rfl; intro w2 b2 hv2 hn2))
  have hF2 := hide ((hF.out.next hn1.bl).next hn2.bl)
  have c0 := hF2.out.cellM
  go_upto_region 2 with (first
    | (go_at_call 67; refine (mprime_any bm P n w2 hF2.out.fb).mono ?_; rintro e w3 ⟨rfl, hb3⟩; replace hb3 := hide hb3)
    | ((with_reducible refine allocN (o := ⟨some 5, _, _, _, _, _⟩) ?_ ?_ ?_); rfl; rfl; intro w4 b4 hv4 hn4)
    | ((with_reducible refine storeE (v' := P) (o := ⟨none, _, _, _, _, _⟩) ?_ (.tmp 5) (.tmp 13) ?_ ?_ ?_ hv4 ?_); rfl; rfl; rfl; rfl; intro w5 hv5 ho5))
  have hB4 := below_next (below_next (below_next hn1.bl hn2.bl) hb3.out) hn4.bl
  have Hb := hide (show w.heap.size ≤ b1 ∧ b1 < b2 ∧ b2 < b4 ∧ b < b1 ∧ bm < b1 from
    ⟨hn1.lo, Nat.lt_of_lt_of_le hn1.hi hn2.lo, Nat.lt_of_lt_of_le (Nat.lt_of_lt_of_le hn2.hi hb3.out.size) hn4.lo, Nat.lt_of_lt_of_le hF.out.vb.lt hn1.lo, Nat.lt_of_lt_of_le hF.out.fb.vb.lt hn1.lo⟩)
  have HB := hide (Only.below hB4 ho5.out (by have := Hb.out; omega))
  have Hv1 := hide (ho5.out.vb (((hv1.next hn2.bl).next hb3.out).next hn4.bl) (by have := Hb.out; omega))
  have Hv2 := hide (ho5.out.vb ((hv2.next hb3.out).next hn4.bl) (by have := Hb.out; omega))
  have Hv5 := hide hv5
  have HF := hide ((((hF2.out.next hb3.out).next hn4.bl)).only ho5.out (by have := Hb.out; omega) (by have := Hb.out; omega))
  have hP0 := HF.out.pos
  clear hv1 hv2 hv4 hv5 hn1 hn2 hn4 ho5 hb3 hB4 hF hF2 c0
  refine region_do 4 29 [fun v _ => v = .slice (some ⟨b1, 0, none⟩) 6 6, fun v _ => v = .slice (some ⟨b4, 0, none⟩) 6 6, fun v _ => v = .int .i64 (cmpI x P), fun v _ => v = .bool (decide (cmpI x P < 0))]
    [(3, .pointer (some ⟨b1, 0, none⟩)), (5, .pointer (some ⟨b4, 0, none⟩))] (fun w' => VB w' b1 24 (ve x) ∧ VB w' b4 98 (ve P)) (fun w' => True) 999 none (by kernel_rfl) (by kernel_rfl) rfl rfl
    (.cons (Fact.eq _) rfl (.cons (Fact.eq _) rfl (.cons (Fact.eq _) rfl (.cons (Fact.eq _) rfl (.nil _))))) (fun w' h => ⟨Hv1.out.next h, Hv5.out.next h⟩) (fun w' h => trivial) (by kernel_rfl) ⟨rfl, rfl, trivial⟩ (.cons ?_ (.cons ?_ (.cons ?_ (.cons ?_ .nil)))) ?_
  · refine Obl.plain rfl _ rfl rfl [] (by kernel_rfl) fun a W hF hC hD K hK => ?_
    have e3 : a.tmps.getD 3 undef = .pointer (some ⟨b1, 0, none⟩) := hF.1
    clear hF hD hC
    go_simp
    exact hK _ _ rfl (Below.refl _ _)
  · refine Obl.plain rfl _ rfl rfl [] (by kernel_rfl) fun a W hF hC hD K hK => ?_
    have e5 : a.tmps.getD 5 undef = .pointer (some ⟨b4, 0, none⟩) := hF.2.1
    clear hF hD hC
    go_simp
    exact hK _ _ rfl (Below.refl _ _)
  · refine Obl.plain rfl _ rfl rfl [0, 1] (by kernel_rfl) fun a W hF hC hD K hK => ?_
    obtain ⟨c1, c2⟩ := hC
    have e14 : a.tmps.getD 14 undef = .slice (some ⟨b1, 0, none⟩) 6 6 := hD.1
    have e15 : a.tmps.getD 15 undef = .slice (some ⟨b4, 0, none⟩) 6 6 := hD.2.1
    clear hF hD
    go_simp
    refine (cmp_ve c1 c2 hx.out HF.out.lt6).mono ?_
    rintro e W' ⟨rfl, hb⟩
    exact hK _ _ rfl hb
  · refine Obl.plain rfl _ rfl rfl [2] (by kernel_rfl) fun a W hF hC hD K hK => ?_
    have e16 : a.tmps.getD 16 undef = .int .i64 (cmpI x P) := hD.1
    clear hF hD hC
    go_simp
    exact hK _ _ rfl (Below.refl _ _)
  rintro w6 hB6 hC6 _ rfl _ rfl _ rfl _ rfl
  change Below _ _ _ at hB6
  change wpList _ _ _ _ _ _
  simp only [List.drop_succ_cons, List.drop_zero, Act.put, List.setIfInBounds_toArray, List.set_cons_zero, List.set_cons_succ]
  have hb6 := hide hB6
  have HB6 := hide (below_next HB.out hB6)
  have Hv16 := hide (Hv1.out.next hB6)
  have Hv26 := hide (Hv2.out.next hB6)
  have Hv56 := hide (Hv5.out.next hB6)
  have HF6 := hide (HF.out.next hB6)
  clear hB6 hC6 Hv1 Hv2 Hv5 HF HB
  by_cases hlt : x < P
  · have hd : cmpI x P < 0 := by unfold cmpI; simp [hlt]
    go_wp2_with (first
      | ((with_reducible refine loadT 24 (o := ⟨some 18, _, _, _, _, _⟩) ?_ (.tmp 3) ?_ ?_ Hv16.out Try.underlying24 rfl Try.sz24 ?_); rfl; rfl; rfl)
      | ((with_reducible refine storeT 24 (v' := x) (o := ⟨none, _, _, _, _, _⟩) ?_ (.tmp 4) (.tmp 18) ?_ ?_ ?_ Hv26.out Try.sz24 ?_); rfl; rfl; rfl; rfl; intro w7 hv7 ho7))
    exact retT 24 rfl rfl hv7 Try.underlying24 rfl Try.sz24 rfl ⟨by rw [Nat.mod_eq_of_lt hlt], Only.below HB6.out ho7.out (by have := Hb.out; omega)⟩
  · have hd : ¬ cmpI x P < 0 := by unfold cmpI; rw [if_neg hlt]; split <;> simp
    go_upto_region 5 with ((with_reducible refine allocT 24 (o := ⟨some 6, _, _, _, _, _⟩) ?_ ?_ Try.zr24 ?_); rfl; rfl; intro w7 b7 hv7 hn7)
    have HB7 := hide (below_next HB6.out hn7.bl)
    have Hv17 := hide (Hv16.out.next hn7.bl)
    have Hv27 := hide (Hv26.out.next hn7.bl)
    have Hv57 := hide (Hv56.out.next hn7.bl)
    have HF7 := hide (HF6.out.next hn7.bl)
    have Hb7 := hide (show b2 < b7 ∧ w.heap.size ≤ b7 from ⟨Nat.lt_of_lt_of_le Hv26.out.lt hn7.lo, Nat.le_trans HB6.out.size hn7.lo⟩)
    have Hv7 := hide hv7
    clear Hv16 Hv26 Hv56 HF6 HB6 hv7 hn7 hd
    refine region_do 7 29 [fun v _ => v = .slice (some ⟨b1, 0, none⟩) 6 6, fun v _ => v = .slice (some ⟨b4, 0, none⟩) 6 6, fun v w => RetTwo (x / P) (x % P) v w, fun v w => RetTwo (x / P) (x % P) v w, fun v w => RetV w .u64 (digs B64 (x / P)) v, fun v w => RetV w .u64 (digs B64 (x % P)) v, fun v w => RetV w .u64 (digs B64 (x / P)) v]
      [(3, .pointer (some ⟨b1, 0, none⟩)), (5, .pointer (some ⟨b4, 0, none⟩))] (fun w' => VB w' b1 24 (ve x) ∧ VB w' b4 98 (ve P)) (fun w' => True) 999 none (by kernel_rfl) (by kernel_rfl) rfl rfl
      (.cons (Fact.eq _) rfl (.cons (Fact.eq _) rfl (.cons (fun v w w' h hb => h.next hb) rfl (.cons (fun v w w' h hb => h.next hb) rfl (.cons (fun v w w' h hb => h.next hb) rfl (.cons (fun v w w' h hb => h.next hb) rfl (.cons (fun v w w' h hb => h.next hb) rfl (.nil _)))))))) (fun w' h => ⟨Hv17.out.next h, Hv57.out.next h⟩) (fun w' h => trivial) (by kernel_rfl) ⟨rfl, rfl, trivial⟩ (.cons ?_ (.cons ?_ (.cons ?_ (.cons ?_ (.cons ?_ (.cons ?_ (.cons ?_ .nil))))))) ?_
    · refine Obl.plain rfl _ rfl rfl [] (by kernel_rfl) fun a W hF hC hD K hK => ?_
      have e3 : a.tmps.getD 3 undef = .pointer (some ⟨b1, 0, none⟩) := hF.1
      clear hF hD hC
      go_simp
      exact hK _ _ rfl (Below.refl _ _)
    · refine Obl.plain rfl _ rfl rfl [] (by kernel_rfl) fun a W hF hC hD K hK => ?_
      have e5 : a.tmps.getD 5 undef = .pointer (some ⟨b4, 0, none⟩) := hF.2.1
      clear hF hD hC
      go_simp
      exact hK _ _ rfl (Below.refl _ _)
    · refine Obl.plain rfl _ rfl rfl [0, 1] (by kernel_rfl) fun a W hF hC hD K hK => ?_
      obtain ⟨c1, c2⟩ := hC
      have e20 : a.tmps.getD 20 undef = .slice (some ⟨b1, 0, none⟩) 6 6 := hD.1
      have e21 : a.tmps.getD 21 undef = .slice (some ⟨b4, 0, none⟩) 6 6 := hD.2.1
      clear hF hD
      go_simp
      refine (divmod_ve c1 c2 hx.out HF7.out.lt6 (by omega)).mono ?_
      rintro e W' ⟨A, c, A', c', rfl, h1, h2, h3, h4, hb⟩
      exact hK _ _ ⟨A, c, A', c', rfl, h1, h2, h3, h4⟩ hb
    · refine Obl.plain rfl _ rfl rfl [2] (by kernel_rfl) fun a W hF hC hD K hK => ?_
      have e22 : (fun (v : Value) (w : World) => RetTwo (x / P) (x % P) v w) (a.tmps.getD 22 undef) W := hD.1
      clear hF hD hC
      exact wp_move (.tmp 22) rfl rfl (hK _ _ e22 (Below.refl _ _))
    · refine Obl.plain rfl _ rfl rfl [3] (by kernel_rfl) fun a W hF hC hD K hK => ?_
      have e19 : (fun (v : Value) (w : World) => RetTwo (x / P) (x % P) v w) (a.tmps.getD 19 undef) W := hD.1
      clear hF hD hC
      obtain ⟨A, c, A', c', h0, h1, h2, h3, h4⟩ := e19
      go_simp
      exact hK _ _ ⟨A, c, rfl, h1, h3⟩ (Below.refl _ _)
    · refine Obl.plain rfl _ rfl rfl [3] (by kernel_rfl) fun a W hF hC hD K hK => ?_
      have e19 : (fun (v : Value) (w : World) => RetTwo (x / P) (x % P) v w) (a.tmps.getD 19 undef) W := hD.1
      clear hF hD hC
      obtain ⟨A, c, A', c', h0, h1, h2, h3, h4⟩ := e19
      go_simp
      exact hK _ _ ⟨A', c', rfl, h2, h4⟩ (Below.refl _ _)
    · refine Obl.plain rfl _ rfl rfl [4, 2, 0, 1, 2, 3, 4] (by kernel_rfl) fun a W hF hC hD K hK => ?_
      have e23 : (fun (v : Value) (w : World) => RetV w .u64 (digs B64 (x / P)) v) (a.tmps.getD 23 undef) W := hD.1
      clear hF hD hC
      exact wp_assign (.tmp 23) rfl rfl (hK _ _ e23 (Below.refl _ _))
    rintro w8 hB8 hC8 _ rfl _ rfl v22 g22 v19 g19 v23 g23 v24 g24 v7 g7
    change Below _ _ _ at hB8
    change wpList _ _ _ _ _ _
    simp only [List.drop_succ_cons, List.drop_zero, Act.put, List.setIfInBounds_toArray, List.set_cons_zero, List.set_cons_succ]
    obtain ⟨A, c, rfl, hc, hr⟩ := g24
    obtain ⟨w9, hrun, hv9, ho9⟩ := copyE (c := c) (Hv7.out.next hB8) hr (Nat.lt_trans (Nat.mod_lt x hP0) HF7.out.lt6)
    have HB9 := hide (Only.below (below_next HB7.out hB8) ho9 (by have := Hb7.out; omega))
    have Hv29 := hide (ho9.vb (Hv27.out.next hB8) (by have := Hb7.out; omega))
    have Hrun := hide hrun
    have Hv9 := hide hv9
    clear hrun hv9 ho9 hB8 hC8 g22 g19 g23 hr Hv17 Hv27 Hv57 HF7 HB7 Hv7
    go_wp2_with (first
      | ((with_reducible refine wpList_copy (o := ⟨some 27, _, _, _, _, _⟩) ?_ (.tmp 25) (.tmp 26) _ _ ?_ ?_ ?_ Hrun.out ?_); rfl; rfl; (go_simp); (go_simp))
      | ((with_reducible refine loadT 24 (o := ⟨some 28, _, _, _, _, _⟩) ?_ (.tmp 6) ?_ ?_ Hv9.out Try.underlying24 rfl Try.sz24 ?_); rfl; rfl; rfl)
      | ((with_reducible refine storeT 24 (v' := x % P) (o := ⟨none, _, _, _, _, _⟩) ?_ (.tmp 4) (.tmp 28) ?_ ?_ ?_ Hv29.out Try.sz24 ?_); rfl; rfl; rfl; rfl; intro w10 hv10 ho10))
    exact retT 24 rfl rfl hv10 Try.underlying24 rfl Try.sz24 rfl ⟨rfl, Only.below HB9.out ho10.out (by have := Hb.out; omega)⟩
end Go.Proofs.Ytincemkjdgbnnaa
