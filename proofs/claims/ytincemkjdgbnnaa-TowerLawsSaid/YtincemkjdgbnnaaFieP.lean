/- Walks: package field: Modulus, Size, Reduce, In, Out. Walks: package field: In, Out, Add, Sub, Neg, Mul, Inv, Exp. Walks: package field: Inv, Exp; elements compared. Walks: package field: Exp. Walks: package field: prime, Hex. Walks: package field: prime, New: the six fields. Walks: package field: New. -/
import Derived.Test.YtincemkjdgbnnaaMontQ
import Derived.Laws.StructEq
import Derived.Laws.ResultCell
import Derived.Laws.RangeString
import Derived.Lib.OthersKept
set_option linter.unusedVariables false
set_option linter.unusedSimpArgs false
namespace Go.Proofs.Ytincemkjdgbnnaa
open Go.RowKit Lm

/-- a field: the block of its struct, and its Montgomery field. -/
structure FQ (w : World) (b bm P n size : Nat) : Prop where
  vb : VB w b 101 [.pointer (some ⟨bm, 0, none⟩), .int .i64 (size : Int)]
  fb : FB w bm P n
  inv : InvOk P
theorem FQ.next {w w' : World} {b bm P n size : Nat} (h : FQ w b bm P n size) (hb : Below w.heap.size w w') : FQ w' b bm P n size := ⟨h.vb.next hb, h.fb.next hb, h.inv⟩
theorem FQ.only {w w' : World} {b bm P n size b' : Nat} (h : FQ w b bm P n size) (ho : Only w w' b') (h1 : b ≠ b') (h2 : bm ≠ b') : FQ w' b bm P n size := ⟨ho.vb h.vb h1, h.fb.only ho h2, h.inv⟩
theorem FQ.drew {w : World} {b bm P n size : Nat} (h : FQ w b bm P n size) : FQ w.drew b bm P n size := ⟨h.vb.drew, h.fb.drew, h.inv⟩
theorem FQ.cellM {w : World} {b bm P n size : Nat} (h : FQ w b bm P n size) : w.cell? ⟨b, 0, none⟩ = some (.pointer (some ⟨bm, 0, none⟩)) := (h.vb.cell 0).trans rfl
theorem FQ.cellS {w : World} {b bm P n size : Nat} (h : FQ w b bm P n size) : w.cell? ⟨b, 1, none⟩ = some (.int .i64 (size : Int)) := (h.vb.cell 1).trans rfl
theorem FQ.pos {w : World} {b bm P n size : Nat} (h : FQ w b bm P n size) : 0 < P := by have := h.fb.gt; omega
theorem FQ.lt6 {w : World} {b bm P n size : Nat} (h : FQ w b bm P n size) : P < B64 ^ 6 := mP_le h.fb.lt h.fb.n6

theorem ve_rd {w : World} {b x : Nat} {t : TypeId} (h : VB w b t (ve x)) : Rd w .u64 (some ⟨b, 0, none⟩) (fix B64 6 x) := fun _ => ⟨_, _, rfl, (VB.to_blk h).row0⟩
/-- two elements, or numbers, are compared. -/
theorem cmp_ve {w : World} {b b' x y : Nat} {t t' : TypeId} (h : VB w b t (ve x)) (h' : VB w b' t' (ve y)) (hx : x < B64 ^ 6) (hy : y < B64 ^ 6) :
    Calls Try.prog 68 #[.slice (some ⟨b, 0, none⟩) 6 6, .slice (some ⟨b', 0, none⟩) 6 6] w fun e w' => e = .returned (.int .i64 (cmpI x y)) ∧ Below w.heap.size w w' := by
  have h := cmp_any (some ⟨b, 0, none⟩) (some ⟨b', 0, none⟩) 6 6 (fix B64 6 x) (fix B64 6 y) w (ve_rd h) (by rw [fix_length]; exact Nat.le_refl _) (by rw [fix_length]; unfold lim; omega) (fix_ok B64_pos _ _)
    (ve_rd h') (by rw [fix_length]; exact Nat.le_refl _) (by rw [fix_length]; unfold lim; omega) (fix_ok B64_pos _ _)
  rw [fix_length, fix_length, val_fix_of_lt hx, val_fix_of_lt hy] at h
  exact h
theorem divmod_ve {w : World} {b b' x y : Nat} {t t' : TypeId} (h : VB w b t (ve x)) (h' : VB w b' t' (ve y)) (hx : x < B64 ^ 6) (hy : y < B64 ^ 6) (hy0 : y ≠ 0) :
    Calls Try.prog 69 #[.slice (some ⟨b, 0, none⟩) 6 6, .slice (some ⟨b', 0, none⟩) 6 6] w (RetDM w (x / y) (x % y)) := by
  have h := divmod_any (some ⟨b, 0, none⟩) (some ⟨b', 0, none⟩) 6 6 (fix B64 6 x) (fix B64 6 y) w (ve_rd h) (by rw [fix_length]; exact Nat.le_refl _) (by rw [fix_length]; unfold lim; omega) (fix_ok B64_pos _ _)
    (ve_rd h') (by rw [fix_length]; exact Nat.le_refl _) (by rw [fix_length]; unfold lim; omega) (fix_ok B64_pos _ _) (by rw [val_fix_of_lt hy]; exact hy0)
  rw [fix_length, fix_length, val_fix_of_lt hx, val_fix_of_lt hy] at h
  exact h
/-- two slices, as DivMod hands them back. -/
def RetTwo (q r : Nat) (v : Value) (w : World) : Prop := ∃ A c A' c', v = .tuple #[.slice A (digs B64 q).length c, .slice A' (digs B64 r).length c'] ∧ (digs B64 q).length ≤ c ∧ (digs B64 r).length ≤ c' ∧ Rd w .u64 A (digs B64 q) ∧ Rd w .u64 A' (digs B64 r)
theorem RetTwo.next {q r : Nat} {v : Value} {w w' : World} (h : RetTwo q r v w) (hb : Below w.heap.size w w') : RetTwo q r v w' := by
  obtain ⟨A, c, A', c', h1, h2, h3, h4, h5⟩ := h
  exact ⟨A, c, A', c', h1, h2, h3, h4.below hb, h5.below hb⟩
/-- a number's digits go into an array of zeros. -/
theorem copyE {w : World} {b r c : Nat} {t : TypeId} {A : Option Addr} (hv : VB w b t (ve 0)) (hr : Rd w .u64 A (digs B64 r)) (h6 : r < B64 ^ 6) :
    ∃ w', (Builtin.copy_ #[104, 104] 3 #[.slice (some ⟨b, 0, none⟩) 6 6, .slice A (digs B64 r).length c]).run Try.prog w = .ok (goInt ((digs B64 r).length : Int)) w' ∧ VB w' b t (ve r) ∧ Only w w' b := by
  have hl := digs_length_le B64_ge h6
  obtain ⟨w', h1, h2, h3⟩ := copy_v (P := Try.prog) (dT := 104) (sT := 104) (ty := 3) (off := 0) (dLen := 6) (dCap := 6) (sCap := c) Try.underlying104 (by kernel_rfl) hv hr (by rw [ve_length]; exact Nat.le_refl _)
  have hz : ve 0 = [] ++ (nums .u64 (List.replicate 6 0) ++ []) := rfl
  rw [hz, fill6 (pre := []) (R := []) (off := 0) (digs_ok B64_ge r) hl rfl, val_digs B64_ge] at h2
  rw [Nat.min_eq_left hl] at h1
  refine ⟨w', h1, ?_, h3⟩
  rw [List.nil_append, List.append_nil] at h2
  exact h2

set_option maxRecDepth 100000 in
theorem fmodulus_c (b bm P n size : Nat) (w : World) (hF : FQ w b bm P n size) :
    Calls Try.prog 30 #[.pointer (some ⟨b, 0, none⟩)] w fun e w' => e = .returned (vE P) ∧ Below w.heap.size w w' := by
  go_enter Try.func30, Try.ntmps30
  have hF := hide hF
  go_upto_region 1 with ((with_reducible refine allocT 24 (o := ⟨some 2, _, _, _, _, _⟩) ?_ ?_ Try.zr24 ?_); rfl; rfl; intro w1 b1 hv1 hn1)
  have hF1 := hide (hF.out.next hn1.bl)
  have c0 := hF1.out.cellM
  go_wp2_with (first
    | (go_at_call 67; refine (mprime_any bm P n w1 hF1.out.fb).mono ?_; rintro e w2 ⟨rfl, hb2⟩; replace hb2 := hide hb2)
    | ((with_reducible refine storeT 24 (v' := P) (o := ⟨none, _, _, _, _, _⟩) ?_ (.tmp 2) (.tmp 7) ?_ ?_ ?_ (hv1.next hb2.out) Try.sz24 ?_); rfl; rfl; rfl; rfl; intro w6 hv6 ho6))
  exact retT 24 rfl rfl hv6 Try.underlying24 rfl Try.sz24 rfl ⟨rfl, Only.below (below_next hn1.bl hb2.out) ho6.out hn1.lo⟩

theorem fsize_c (b bm P n size : Nat) (w : World) (hF : FQ w b bm P n size) :
    Calls Try.prog 31 #[.pointer (some ⟨b, 0, none⟩)] w fun e w' => e = .returned (.int .i64 (size : Int)) ∧ w' = w := by
  go_enter Try.func31, Try.ntmps31
  have c1 := hF.cellS
  have hF := hide hF
  go_wp2_with fail
  go_ret
  exact ⟨rfl, rfl⟩

set_option maxRecDepth 100000 in
set_option maxHeartbeats 1600000 in
theorem freduce_c (b bm P n size x : Nat) (w : World) (hF : FQ w b bm P n size) (hx : x < B64 ^ 6) :
    Calls Try.prog 18 #[.pointer (some ⟨b, 0, none⟩), vE x] w fun e w' => e = .returned (vE (x % P)) ∧ Below w.heap.size w w' := by
  go_enter Try.func18, Try.ntmps18
  have hF := hide hF
  have hx := hide hx
  go_upto_region 1 with (first
    | ((with_reducible refine boxT 24 (o := ⟨some 3, _, _, _, _, _⟩) ?_ (.tmp 1) ?_ (v := x) ?_ ?_); rfl; rfl; rfl; intro w1 b1 hv1 hn1)
    | ((with_reducible refine allocT 24 (o := ⟨some 4, _, _, _, _, _⟩) ?_ ?_ Try.zr24 ?_); rfl; rfl; intro w2 b2 hv2 hn2))
  have hF2 := hide ((hF.out.next hn1.bl).next hn2.bl)
  have c0 := hF2.out.cellM
  go_upto_region 2 with (first
    | (go_at_call 67; refine (mprime_any bm P n w2 hF2.out.fb).mono ?_; rintro e w3 ⟨rfl, hb3⟩; replace hb3 := hide hb3)
    | ((with_reducible refine allocN (o := ⟨some 5, _, _, _, _, _⟩) ?_ ?_ ?_); rfl; rfl; intro w4 b4 hv4 hn4)
    | ((with_reducible refine storeE (v' := P) (o := ⟨none, _, _, _, _, _⟩) ?_ (.tmp 5) (.tmp 13) ?_ ?_ ?_ hv4 ?_); rfl; rfl; rfl; rfl; intro w5 hv5 ho5))
  have hB4 := below_next (below_next (below_next hn1.bl hn2.bl) hb3.out) hn4.bl
  have Hb := hide (show w.heap.size ≤ b1 ∧ b1 < b2 ∧ b2 < b4 ∧ b < b1 ∧ bm < b1 from
    ⟨hn1.lo, Nat.lt_of_lt_of_le hn1.hi hn2.lo, Nat.lt_of_lt_of_le (Nat.lt_of_lt_of_le hn2.hi hb3.out.size) hn4.lo, Nat.lt_of_lt_of_le hF.out.vb.lt hn1.lo, Nat.lt_of_lt_of_le hF.out.fb.vb.lt hn1.lo⟩)
  have HB := hide (Only.below hB4 ho5.out (by have := Hb.out; omega))
  have Hv1 := hide (ho5.out.vb (((hv1.next hn2.bl).next hb3.out).next hn4.bl) (by have := Hb.out; omega))
  have Hv2 := hide (ho5.out.vb ((hv2.next hb3.out).next hn4.bl) (by have := Hb.out; omega))
  have Hv5 := hide hv5
  have HF := hide ((((hF2.out.next hb3.out).next hn4.bl)).only ho5.out (by have := Hb.out; omega) (by have := Hb.out; omega))
  have hP0 := HF.out.pos
  clear hv1 hv2 hv4 hv5 hn1 hn2 hn4 ho5 hb3 hB4 hF hF2 c0
  refine region_do 4 29 [fun v _ => v = .slice (some ⟨b1, 0, none⟩) 6 6, fun v _ => v = .slice (some ⟨b4, 0, none⟩) 6 6, fun v _ => v = .int .i64 (cmpI x P), fun v _ => v = .bool (decide (cmpI x P < 0))]
    [(3, .pointer (some ⟨b1, 0, none⟩)), (5, .pointer (some ⟨b4, 0, none⟩))] (fun w' => VB w' b1 24 (ve x) ∧ VB w' b4 98 (ve P)) (fun w' => True) 999 none (by kernel_rfl) (by kernel_rfl) rfl rfl
    (.cons (Fact.eq _) rfl (.cons (Fact.eq _) rfl (.cons (Fact.eq _) rfl (.cons (Fact.eq _) rfl (.nil _))))) (fun w' h => ⟨Hv1.out.next h, Hv5.out.next h⟩) (fun w' h => trivial) (by kernel_rfl) ⟨rfl, rfl, trivial⟩ (.cons ?_ (.cons ?_ (.cons ?_ (.cons ?_ .nil)))) ?_
  · refine Obl.plain rfl _ rfl rfl [] (by kernel_rfl) fun a W hF hC hD K hK => ?_
    have e3 : a.tmps.getD 3 undef = .pointer (some ⟨b1, 0, none⟩) := hF.1
    clear hF hD hC
    go_simp
    exact hK _ _ rfl (Below.refl _ _)
  · refine Obl.plain rfl _ rfl rfl [] (by kernel_rfl) fun a W hF hC hD K hK => ?_
    have e5 : a.tmps.getD 5 undef = .pointer (some ⟨b4, 0, none⟩) := hF.2.1
    clear hF hD hC
    go_simp
    exact hK _ _ rfl (Below.refl _ _)
  · refine Obl.plain rfl _ rfl rfl [0, 1] (by kernel_rfl) fun a W hF hC hD K hK => ?_
    obtain ⟨c1, c2⟩ := hC
    have e14 : a.tmps.getD 14 undef = .slice (some ⟨b1, 0, none⟩) 6 6 := hD.1
    have e15 : a.tmps.getD 15 undef = .slice (some ⟨b4, 0, none⟩) 6 6 := hD.2.1
    clear hF hD
    go_simp
    refine (cmp_ve c1 c2 hx.out HF.out.lt6).mono ?_
    rintro e W' ⟨rfl, hb⟩
    exact hK _ _ rfl hb
  · refine Obl.plain rfl _ rfl rfl [2] (by kernel_rfl) fun a W hF hC hD K hK => ?_
    have e16 : a.tmps.getD 16 undef = .int .i64 (cmpI x P) := hD.1
    clear hF hD hC
    go_simp
    exact hK _ _ rfl (Below.refl _ _)
  rintro w6 hB6 hC6 _ rfl _ rfl _ rfl _ rfl
  change Below _ _ _ at hB6
  change wpList _ _ _ _ _ _
  simp only [List.drop_succ_cons, List.drop_zero, Act.put, List.setIfInBounds_toArray, List.set_cons_zero, List.set_cons_succ]
  have hb6 := hide hB6
  have HB6 := hide (below_next HB.out hB6)
  have Hv16 := hide (Hv1.out.next hB6)
  have Hv26 := hide (Hv2.out.next hB6)
  have Hv56 := hide (Hv5.out.next hB6)
  have HF6 := hide (HF.out.next hB6)
  clear hB6 hC6 Hv1 Hv2 Hv5 HF HB
  by_cases hlt : x < P
  · have hd : cmpI x P < 0 := by unfold cmpI; simp [hlt]
    go_wp2_with (first
      | ((with_reducible refine loadT 24 (o := ⟨some 18, _, _, _, _, _⟩) ?_ (.tmp 3) ?_ ?_ Hv16.out Try.underlying24 rfl Try.sz24 ?_); rfl; rfl; rfl)
      | ((with_reducible refine storeT 24 (v' := x) (o := ⟨none, _, _, _, _, _⟩) ?_ (.tmp 4) (.tmp 18) ?_ ?_ ?_ Hv26.out Try.sz24 ?_); rfl; rfl; rfl; rfl; intro w7 hv7 ho7))
    exact retT 24 rfl rfl hv7 Try.underlying24 rfl Try.sz24 rfl ⟨by rw [Nat.mod_eq_of_lt hlt], Only.below HB6.out ho7.out (by have := Hb.out; omega)⟩
  · have hd : ¬ cmpI x P < 0 := by unfold cmpI; rw [if_neg hlt]; split <;> simp
    go_upto_region 5 with ((with_reducible refine allocT 24 (o := ⟨some 6, _, _, _, _, _⟩) ?_ ?_ Try.zr24 ?_); rfl; rfl; intro w7 b7 hv7 hn7)
    have HB7 := hide (below_next HB6.out hn7.bl)
    have Hv17 := hide (Hv16.out.next hn7.bl)
    have Hv27 := hide (Hv26.out.next hn7.bl)
    have Hv57 := hide (Hv56.out.next hn7.bl)
    have HF7 := hide (HF6.out.next hn7.bl)
    have Hb7 := hide (show b2 < b7 ∧ w.heap.size ≤ b7 from ⟨Nat.lt_of_lt_of_le Hv26.out.lt hn7.lo, Nat.le_trans HB6.out.size hn7.lo⟩)
    have Hv7 := hide hv7
    clear Hv16 Hv26 Hv56 HF6 HB6 hv7 hn7 hd
    refine region_do 7 29 [fun v _ => v = .slice (some ⟨b1, 0, none⟩) 6 6, fun v _ => v = .slice (some ⟨b4, 0, none⟩) 6 6, fun v w => RetTwo (x / P) (x % P) v w, fun v w => RetTwo (x / P) (x % P) v w, fun v w => RetV w .u64 (digs B64 (x / P)) v, fun v w => RetV w .u64 (digs B64 (x % P)) v, fun v w => RetV w .u64 (digs B64 (x / P)) v]
      [(3, .pointer (some ⟨b1, 0, none⟩)), (5, .pointer (some ⟨b4, 0, none⟩))] (fun w' => VB w' b1 24 (ve x) ∧ VB w' b4 98 (ve P)) (fun w' => True) 999 none (by kernel_rfl) (by kernel_rfl) rfl rfl
      (.cons (Fact.eq _) rfl (.cons (Fact.eq _) rfl (.cons (fun v w w' h hb => h.next hb) rfl (.cons (fun v w w' h hb => h.next hb) rfl (.cons (fun v w w' h hb => h.next hb) rfl (.cons (fun v w w' h hb => h.next hb) rfl (.cons (fun v w w' h hb => h.next hb) rfl (.nil _)))))))) (fun w' h => ⟨Hv17.out.next h, Hv57.out.next h⟩) (fun w' h => trivial) (by kernel_rfl) ⟨rfl, rfl, trivial⟩ (.cons ?_ (.cons ?_ (.cons ?_ (.cons ?_ (.cons ?_ (.cons ?_ (.cons ?_ .nil))))))) ?_
    · refine Obl.plain rfl _ rfl rfl [] (by kernel_rfl) fun a W hF hC hD K hK => ?_
      have e3 : a.tmps.getD 3 undef = .pointer (some ⟨b1, 0, none⟩) := hF.1
      clear hF hD hC
      go_simp
      exact hK _ _ rfl (Below.refl _ _)
    · refine Obl.plain rfl _ rfl rfl [] (by kernel_rfl) fun a W hF hC hD K hK => ?_
      have e5 : a.tmps.getD 5 undef = .pointer (some ⟨b4, 0, none⟩) := hF.2.1
      clear hF hD hC
      go_simp
      exact hK _ _ rfl (Below.refl _ _)
    · refine Obl.plain rfl _ rfl rfl [0, 1] (by kernel_rfl) fun a W hF hC hD K hK => ?_
      obtain ⟨c1, c2⟩ := hC
      have e20 : a.tmps.getD 20 undef = .slice (some ⟨b1, 0, none⟩) 6 6 := hD.1
      have e21 : a.tmps.getD 21 undef = .slice (some ⟨b4, 0, none⟩) 6 6 := hD.2.1
      clear hF hD
      go_simp
      refine (divmod_ve c1 c2 hx.out HF7.out.lt6 (by omega)).mono ?_
      rintro e W' ⟨A, c, A', c', rfl, h1, h2, h3, h4, hb⟩
      exact hK _ _ ⟨A, c, A', c', rfl, h1, h2, h3, h4⟩ hb
    · refine Obl.plain rfl _ rfl rfl [2] (by kernel_rfl) fun a W hF hC hD K hK => ?_
      have e22 : (fun (v : Value) (w : World) => RetTwo (x / P) (x % P) v w) (a.tmps.getD 22 undef) W := hD.1
      clear hF hD hC
      exact wp_move (.tmp 22) rfl rfl (hK _ _ e22 (Below.refl _ _))
    · refine Obl.plain rfl _ rfl rfl [3] (by kernel_rfl) fun a W hF hC hD K hK => ?_
      have e19 : (fun (v : Value) (w : World) => RetTwo (x / P) (x % P) v w) (a.tmps.getD 19 undef) W := hD.1
      clear hF hD hC
      obtain ⟨A, c, A', c', h0, h1, h2, h3, h4⟩ := e19
      go_simp
      exact hK _ _ ⟨A, c, rfl, h1, h3⟩ (Below.refl _ _)
    · refine Obl.plain rfl _ rfl rfl [3] (by kernel_rfl) fun a W hF hC hD K hK => ?_
      have e19 : (fun (v : Value) (w : World) => RetTwo (x / P) (x % P) v w) (a.tmps.getD 19 undef) W := hD.1
      clear hF hD hC
      obtain ⟨A, c, A', c', h0, h1, h2, h3, h4⟩ := e19
      go_simp
      exact hK _ _ ⟨A', c', rfl, h2, h4⟩ (Below.refl _ _)
    · refine Obl.plain rfl _ rfl rfl [4, 2, 0, 1, 2, 3, 4] (by kernel_rfl) fun a W hF hC hD K hK => ?_
      have e23 : (fun (v : Value) (w : World) => RetV w .u64 (digs B64 (x / P)) v) (a.tmps.getD 23 undef) W := hD.1
      clear hF hD hC
      exact wp_assign (.tmp 23) rfl rfl (hK _ _ e23 (Below.refl _ _))
    rintro w8 hB8 hC8 _ rfl _ rfl v22 g22 v19 g19 v23 g23 v24 g24 v7 g7
    change Below _ _ _ at hB8
    change wpList _ _ _ _ _ _
    simp only [List.drop_succ_cons, List.drop_zero, Act.put, List.setIfInBounds_toArray, List.set_cons_zero, List.set_cons_succ]
    obtain ⟨A, c, rfl, hc, hr⟩ := g24
    obtain ⟨w9, hrun, hv9, ho9⟩ := copyE (c := c) (Hv7.out.next hB8) hr (Nat.lt_trans (Nat.mod_lt x hP0) HF7.out.lt6)
    have HB9 := hide (Only.below (below_next HB7.out hB8) ho9 (by have := Hb7.out; omega))
    have Hv29 := hide (ho9.vb (Hv27.out.next hB8) (by have := Hb7.out; omega))
    have Hrun := hide hrun
    have Hv9 := hide hv9
    clear hrun hv9 ho9 hB8 hC8 g22 g19 g23 hr Hv17 Hv27 Hv57 HF7 HB7 Hv7
    go_wp2_with (first
      | ((with_reducible refine wpList_copy (o := ⟨some 27, _, _, _, _, _⟩) ?_ (.tmp 25) (.tmp 26) _ _ ?_ ?_ ?_ Hrun.out ?_); rfl; rfl; (go_simp); (go_simp))
      | ((with_reducible refine loadT 24 (o := ⟨some 28, _, _, _, _, _⟩) ?_ (.tmp 6) ?_ ?_ Hv9.out Try.underlying24 rfl Try.sz24 ?_); rfl; rfl; rfl)
      | ((with_reducible refine storeT 24 (v' := x % P) (o := ⟨none, _, _, _, _, _⟩) ?_ (.tmp 4) (.tmp 28) ?_ ?_ ?_ Hv29.out Try.sz24 ?_); rfl; rfl; rfl; rfl; intro w10 hv10 ho10))
    exact retT 24 rfl rfl hv10 Try.underlying24 rfl Try.sz24 rfl ⟨rfl, Only.below HB9.out ho10.out (by have := Hb.out; omega)⟩
end Go.Proofs.Ytincemkjdgbnnaa

set_option linter.unusedVariables false
set_option linter.unusedSimpArgs false
namespace Go.Proofs.Ytincemkjdgbnnaa
open Go.RowKit Lm

theorem mod_lt6 {x P : Nat} (h0 : 0 < P) (h : P < B64 ^ 6) : x % P < B64 ^ 6 := Nat.lt_trans (Nat.mod_lt x h0) h

set_option maxRecDepth 100000 in
set_option maxHeartbeats 1600000 in
theorem fin_c (b bm P n size x : Nat) (w : World) (hF : FQ w b bm P n size) (hx : x < B64 ^ 6) :
    Calls Try.prog 65 #[.pointer (some ⟨b, 0, none⟩), vE x] w fun e w' => e = .returned (vE (mf P n x)) ∧ Below w.heap.size w w' := by
  go_enter Try.func65, Try.ntmps65
  have hF := hide hF
  have hx := hide hx
  go_upto_region 1 with (first
    | ((with_reducible refine boxT 24 (o := ⟨some 3, _, _, _, _, _⟩) ?_ (.tmp 1) ?_ (v := x) ?_ ?_); rfl; rfl; rfl; intro w1 b1 hv1 hn1)
    | ((with_reducible refine allocN (o := ⟨some 4, _, _, _, _, _⟩) ?_ ?_ ?_); rfl; rfl; intro w2 b2 hv2 hn2))
  have HF := hide ((hF.out.next hn1.bl).next hn2.bl)
  have HB := hide (below_next hn1.bl hn2.bl)
  have Hv1 := hide (hv1.next hn2.bl)
  have Hv2 := hide hv2
  have Hb := hide (Nat.le_trans hn1.bl.size hn2.lo)
  have hP0 := HF.out.pos
  clear hv1 hv2 hn1 hn2 hF
  refine region_do 8 13 [fun v _ => v = .pointer (some ⟨b, 0, none⟩), fun v _ => v = .pointer (some ⟨b, 0, none⟩), fun v _ => v = .pointer (some ⟨b, 0, none⟩), fun v _ => v = .pointer (some ⟨bm, 0, none⟩), fun v _ => v = .pointer (some ⟨b, 0, none⟩), fun v _ => v = vE (x), fun v _ => v = vE (x % P), fun v _ => v = vE (mf P n (x % P))]
    [(0, .pointer (some ⟨b, 0, none⟩)), (3, .pointer (some ⟨b1, 0, none⟩))] (fun w' => FQ w' b bm P n size ∧ VB w' b1 24 (ve x)) (fun w' => True) 999 none (by kernel_rfl) (by kernel_rfl) rfl rfl
    (.cons (Fact.eq _) rfl (.cons (Fact.eq _) rfl (.cons (Fact.eq _) rfl (.cons (Fact.eq _) rfl (.cons (Fact.eq _) rfl (.cons (Fact.eq _) rfl (.cons (Fact.eq _) rfl (.cons (Fact.eq _) rfl (.nil _))))))))) (fun w' h => ⟨HF.out.next h, Hv1.out.next h⟩) (fun w' h => trivial) (by kernel_rfl) ⟨rfl, rfl, trivial⟩ (.cons ?_ (.cons ?_ (.cons ?_ (.cons ?_ (.cons ?_ (.cons ?_ (.cons ?_ (.cons ?_ .nil)))))))) ?_
  · refine Obl.plain rfl _ rfl rfl [] (by kernel_rfl) fun a W hF hC hD K hK => ?_
    have e0 : a.tmps.getD 0 undef = .pointer (some ⟨b, 0, none⟩) := hF.1
    clear hF hD hC
    go_simp
    exact hK _ _ rfl (Below.refl _ _)
  · refine Obl.plain rfl _ rfl rfl [0] (by kernel_rfl) fun a W hF hC hD K hK => ?_
    have e5 : a.tmps.getD 5 undef = .pointer (some ⟨b, 0, none⟩) := hD.1
    clear hF hD hC
    go_simp
    exact hK _ _ rfl (Below.refl _ _)
  · refine Obl.plain rfl _ rfl rfl [1] (by kernel_rfl) fun a W hF hC hD K hK => ?_
    have e6 : a.tmps.getD 6 undef = .pointer (some ⟨b, 0, none⟩) := hD.1
    clear hF hD hC
    go_simp
    exact hK _ _ rfl (Below.refl _ _)
  · refine Obl.plain rfl _ rfl rfl [2] (by kernel_rfl) fun a W hF hC hD K hK => ?_
    obtain ⟨c1, c2⟩ := hC
    have e7 : a.tmps.getD 7 undef = .pointer (some ⟨b, 0, none⟩) := hD.1
    clear hF hD
    have f0 := c1.cellM
    go_simp
    exact hK _ _ rfl (Below.refl _ _)
  · refine Obl.plain rfl _ rfl rfl [] (by kernel_rfl) fun a W hF hC hD K hK => ?_
    have e0 : a.tmps.getD 0 undef = .pointer (some ⟨b, 0, none⟩) := hF.1
    clear hF hD hC
    go_simp
    exact hK _ _ rfl (Below.refl _ _)
  · refine Obl.plain rfl _ rfl rfl [] (by kernel_rfl) fun a W hF hC hD K hK => ?_
    obtain ⟨c1, c2⟩ := hC
    have e3 : a.tmps.getD 3 undef = .pointer (some ⟨b1, 0, none⟩) := hF.2.1
    clear hF hD
    exact wpE _ (.tmp 3) rfl c2 e3 Try.underlying24 rfl Try.sz24 (hK _ _ rfl (Below.refl _ _))
  · refine Obl.plain rfl _ rfl rfl [4, 5] (by kernel_rfl) fun a W hF hC hD K hK => ?_
    obtain ⟨c1, c2⟩ := hC
    have e9 : a.tmps.getD 9 undef = .pointer (some ⟨b, 0, none⟩) := hD.1
    have e10 : a.tmps.getD 10 undef = vE (x) := hD.2.1
    clear hF hD
    go_simp
    refine (freduce_c b bm P n size x W c1 hx.out).mono ?_
    rintro e W' ⟨rfl, hb⟩
    exact hK _ _ rfl hb
  · refine Obl.plain rfl _ rfl rfl [3, 6, 6] (by kernel_rfl) fun a W hF hC hD K hK => ?_
    obtain ⟨c1, c2⟩ := hC
    have e8 : a.tmps.getD 8 undef = .pointer (some ⟨bm, 0, none⟩) := hD.1
    have e11 : a.tmps.getD 11 undef = vE (x % P) := hD.2.1
    clear hF hD
    go_simp
    refine (mto_c bm P n (x % P) W c1.fb c1.inv (Nat.mod_lt x hP0)).mono ?_
    rintro e W' ⟨rfl, hb⟩
    exact hK _ _ rfl hb
  rintro w3 hB3 hC3 _ rfl _ rfl _ rfl _ rfl _ rfl _ rfl _ rfl _ rfl
  change Below _ _ _ at hB3
  change wpList _ _ _ _ _ _
  simp only [List.drop_succ_cons, List.drop_zero, Act.put, List.setIfInBounds_toArray, List.set_cons_zero, List.set_cons_succ]
  rw [mf_mod]
  have hb3 := hide hB3
  clear hB3 hC3
  go_wp2_with ((with_reducible refine storeE (v' := mf P n x) (o := ⟨none, _, _, _, _, _⟩) ?_ (.tmp 4) (.tmp 12) ?_ ?_ ?_ (Hv2.out.next hb3.out) ?_); rfl; rfl; rfl; rfl; intro w6 hv6 ho6)
  exact retE rfl rfl hv6 rfl ⟨rfl, Only.below (below_next HB.out hb3.out) ho6.out Hb.out⟩

set_option maxRecDepth 100000 in
set_option maxHeartbeats 1600000 in
theorem fout_c (b bm P n size X : Nat) (w : World) (hF : FQ w b bm P n size) :
    Calls Try.prog 63 #[.pointer (some ⟨b, 0, none⟩), vE (mf P n X)] w fun e w' => e = .returned (vE (X % P)) ∧ Below w.heap.size w w' := by
  go_enter Try.func63, Try.ntmps63
  have hF := hide hF
  go_upto_region 1 with (first
    | ((with_reducible refine boxN (o := ⟨some 3, _, _, _, _, _⟩) ?_ (.tmp 1) ?_ (v := mf P n X) ?_ ?_); rfl; rfl; rfl; intro w1 b1 hv1 hn1)
    | ((with_reducible refine allocT 24 (o := ⟨some 4, _, _, _, _, _⟩) ?_ ?_ Try.zr24 ?_); rfl; rfl; intro w2 b2 hv2 hn2))
  have HF := hide ((hF.out.next hn1.bl).next hn2.bl)
  have HB := hide (below_next hn1.bl hn2.bl)
  have Hv1 := hide (hv1.next hn2.bl)
  have Hv2 := hide hv2
  have Hb := hide (Nat.le_trans hn1.bl.size hn2.lo)
  have hP0 := HF.out.pos
  clear hv1 hv2 hn1 hn2 hF
  refine region_do 6 11 [fun v _ => v = .pointer (some ⟨b, 0, none⟩), fun v _ => v = .pointer (some ⟨b, 0, none⟩), fun v _ => v = .pointer (some ⟨b, 0, none⟩), fun v _ => v = .pointer (some ⟨bm, 0, none⟩), fun v _ => v = vE (mf P n X), fun v _ => v = vE (X % P)]
    [(0, .pointer (some ⟨b, 0, none⟩)), (3, .pointer (some ⟨b1, 0, none⟩))] (fun w' => FQ w' b bm P n size ∧ VB w' b1 98 (ve (mf P n X))) (fun w' => True) 999 none (by kernel_rfl) (by kernel_rfl) rfl rfl
    (.cons (Fact.eq _) rfl (.cons (Fact.eq _) rfl (.cons (Fact.eq _) rfl (.cons (Fact.eq _) rfl (.cons (Fact.eq _) rfl (.cons (Fact.eq _) rfl (.nil _))))))) (fun w' h => ⟨HF.out.next h, Hv1.out.next h⟩) (fun w' h => trivial) (by kernel_rfl) ⟨rfl, rfl, trivial⟩ (.cons ?_ (.cons ?_ (.cons ?_ (.cons ?_ (.cons ?_ (.cons ?_ .nil)))))) ?_
  · refine Obl.plain rfl _ rfl rfl [] (by kernel_rfl) fun a W hF hC hD K hK => ?_
    have e0 : a.tmps.getD 0 undef = .pointer (some ⟨b, 0, none⟩) := hF.1
    clear hF hD hC
    go_simp
    exact hK _ _ rfl (Below.refl _ _)
  · refine Obl.plain rfl _ rfl rfl [0] (by kernel_rfl) fun a W hF hC hD K hK => ?_
    have e5 : a.tmps.getD 5 undef = .pointer (some ⟨b, 0, none⟩) := hD.1
    clear hF hD hC
    go_simp
    exact hK _ _ rfl (Below.refl _ _)
  · refine Obl.plain rfl _ rfl rfl [1] (by kernel_rfl) fun a W hF hC hD K hK => ?_
    have e6 : a.tmps.getD 6 undef = .pointer (some ⟨b, 0, none⟩) := hD.1
    clear hF hD hC
    go_simp
    exact hK _ _ rfl (Below.refl _ _)
  · refine Obl.plain rfl _ rfl rfl [2] (by kernel_rfl) fun a W hF hC hD K hK => ?_
    obtain ⟨c1, c2⟩ := hC
    have e7 : a.tmps.getD 7 undef = .pointer (some ⟨b, 0, none⟩) := hD.1
    clear hF hD
    have f0 := c1.cellM
    go_simp
    exact hK _ _ rfl (Below.refl _ _)
  · refine Obl.plain rfl _ rfl rfl [] (by kernel_rfl) fun a W hF hC hD K hK => ?_
    obtain ⟨c1, c2⟩ := hC
    have e3 : a.tmps.getD 3 undef = .pointer (some ⟨b1, 0, none⟩) := hF.2.1
    clear hF hD
    exact wpE _ (.tmp 3) rfl c2 e3 Try.underlying98 rfl Try.sz98 (hK _ _ rfl (Below.refl _ _))
  · refine Obl.plain rfl _ rfl rfl [3, 4] (by kernel_rfl) fun a W hF hC hD K hK => ?_
    obtain ⟨c1, c2⟩ := hC
    have e8 : a.tmps.getD 8 undef = .pointer (some ⟨bm, 0, none⟩) := hD.1
    have e9 : a.tmps.getD 9 undef = vE (mf P n X) := hD.2.1
    clear hF hD
    go_simp
    refine (mfrom_c bm P n X W c1.fb c1.inv).mono ?_
    rintro e W' ⟨rfl, hb⟩
    exact hK _ _ rfl hb
  rintro w3 hB3 hC3 _ rfl _ rfl _ rfl _ rfl _ rfl _ rfl
  change Below _ _ _ at hB3
  change wpList _ _ _ _ _ _
  simp only [List.drop_succ_cons, List.drop_zero, Act.put, List.setIfInBounds_toArray, List.set_cons_zero, List.set_cons_succ]
  have hb3 := hide hB3
  clear hB3 hC3
  go_wp2_with ((with_reducible refine storeT 24 (v' := X % P) (o := ⟨none, _, _, _, _, _⟩) ?_ (.tmp 4) (.tmp 10) ?_ ?_ ?_ (Hv2.out.next hb3.out) Try.sz24 ?_); rfl; rfl; rfl; rfl; intro w6 hv6 ho6)
  exact retT 24 rfl rfl hv6 Try.underlying24 rfl Try.sz24 rfl ⟨rfl, Only.below (below_next HB.out hb3.out) ho6.out Hb.out⟩

theorem fadd_m (bm P n x y : Nat) (w : World) (hF : FB w bm P n) :
    Calls Try.prog 75 #[.pointer (some ⟨bm, 0, none⟩), vE (x % P), vE (y % P)] w fun e w' => e = .returned (vE ((x + y) % P)) ∧ Below w.heap.size w w' := by
  have hP : 0 < P := by have := hF.gt; omega
  have h := madd_any bm P n (x % P) (y % P) w hF (Nat.mod_lt x hP) (Nat.mod_lt y hP)
  rw [← Nat.add_mod] at h; exact h

set_option maxRecDepth 100000 in
set_option maxHeartbeats 1600000 in
theorem fadd_c (b bm P n size x y : Nat) (w : World) (hF : FQ w b bm P n size) (hx : x < B64 ^ 6) (hy : y < B64 ^ 6) :
    Calls Try.prog 32 #[.pointer (some ⟨b, 0, none⟩), vE x, vE y] w fun e w' => e = .returned (vE ((x + y) % P)) ∧ Below w.heap.size w w' := by
  go_enter Try.func32, Try.ntmps32
  have hF := hide hF
  have hx := hide hx
  have hy := hide hy
  go_upto_region 1 with (first
    | ((with_reducible refine boxT 24 (o := ⟨some 4, _, _, _, _, _⟩) ?_ (.tmp 1) ?_ (v := x) ?_ ?_); rfl; rfl; rfl; intro w1 b1 hv1 hn1)
    | ((with_reducible refine boxT 24 (o := ⟨some 5, _, _, _, _, _⟩) ?_ (.tmp 2) ?_ (v := y) ?_ ?_); rfl; rfl; rfl; intro w2 b2 hv2 hn2)
    | ((with_reducible refine allocT 24 (o := ⟨some 6, _, _, _, _, _⟩) ?_ ?_ Try.zr24 ?_); rfl; rfl; intro w3 b3 hv3 hn3))
  have HF := hide (((hF.out.next hn1.bl).next hn2.bl).next hn3.bl)
  have HB := hide (below_next (below_next hn1.bl hn2.bl) hn3.bl)
  have Hv1 := hide ((hv1.next hn2.bl).next hn3.bl)
  have Hv2 := hide (hv2.next hn3.bl)
  have Hv3 := hide hv3
  have Hb := hide (Nat.le_trans (Nat.le_trans hn1.bl.size hn2.bl.size) hn3.lo)
  have hP0 := HF.out.pos
  clear hv1 hv2 hv3 hn1 hn2 hn3 hF
  refine region_do 11 18 [fun v _ => v = .pointer (some ⟨b, 0, none⟩), fun v _ => v = .pointer (some ⟨b, 0, none⟩), fun v _ => v = .pointer (some ⟨b, 0, none⟩), fun v _ => v = .pointer (some ⟨bm, 0, none⟩), fun v _ => v = .pointer (some ⟨b, 0, none⟩), fun v _ => v = vE (x), fun v _ => v = vE (x % P), fun v _ => v = .pointer (some ⟨b, 0, none⟩), fun v _ => v = vE (y), fun v _ => v = vE (y % P), fun v _ => v = vE ((x + y) % P)]
    [(0, .pointer (some ⟨b, 0, none⟩)), (4, .pointer (some ⟨b1, 0, none⟩)), (5, .pointer (some ⟨b2, 0, none⟩))] (fun w' => FQ w' b bm P n size ∧ VB w' b1 24 (ve x) ∧ VB w' b2 24 (ve y)) (fun w' => True) 999 none (by kernel_rfl) (by kernel_rfl) rfl rfl
    (.cons (Fact.eq _) rfl (.cons (Fact.eq _) rfl (.cons (Fact.eq _) rfl (.cons (Fact.eq _) rfl (.cons (Fact.eq _) rfl (.cons (Fact.eq _) rfl (.cons (Fact.eq _) rfl (.cons (Fact.eq _) rfl (.cons (Fact.eq _) rfl (.cons (Fact.eq _) rfl (.cons (Fact.eq _) rfl (.nil _)))))))))))) (fun w' h => ⟨HF.out.next h, Hv1.out.next h, Hv2.out.next h⟩) (fun w' h => trivial) (by kernel_rfl) ⟨rfl, rfl, rfl, trivial⟩ (.cons ?_ (.cons ?_ (.cons ?_ (.cons ?_ (.cons ?_ (.cons ?_ (.cons ?_ (.cons ?_ (.cons ?_ (.cons ?_ (.cons ?_ .nil))))))))))) ?_
  · refine Obl.plain rfl _ rfl rfl [] (by kernel_rfl) fun a W hF hC hD K hK => ?_
    have e0 : a.tmps.getD 0 undef = .pointer (some ⟨b, 0, none⟩) := hF.1
    clear hF hD hC
    go_simp
    exact hK _ _ rfl (Below.refl _ _)
  · refine Obl.plain rfl _ rfl rfl [0] (by kernel_rfl) fun a W hF hC hD K hK => ?_
    have e7 : a.tmps.getD 7 undef = .pointer (some ⟨b, 0, none⟩) := hD.1
    clear hF hD hC
    go_simp
    exact hK _ _ rfl (Below.refl _ _)
  · refine Obl.plain rfl _ rfl rfl [1] (by kernel_rfl) fun a W hF hC hD K hK => ?_
    have e8 : a.tmps.getD 8 undef = .pointer (some ⟨b, 0, none⟩) := hD.1
    clear hF hD hC
    go_simp
    exact hK _ _ rfl (Below.refl _ _)
  · refine Obl.plain rfl _ rfl rfl [2] (by kernel_rfl) fun a W hF hC hD K hK => ?_
    obtain ⟨c1, c2, c3⟩ := hC
    have e9 : a.tmps.getD 9 undef = .pointer (some ⟨b, 0, none⟩) := hD.1
    clear hF hD
    have f0 := c1.cellM
    go_simp
    exact hK _ _ rfl (Below.refl _ _)
  · refine Obl.plain rfl _ rfl rfl [] (by kernel_rfl) fun a W hF hC hD K hK => ?_
    have e0 : a.tmps.getD 0 undef = .pointer (some ⟨b, 0, none⟩) := hF.1
    clear hF hD hC
    go_simp
    exact hK _ _ rfl (Below.refl _ _)
  · refine Obl.plain rfl _ rfl rfl [] (by kernel_rfl) fun a W hF hC hD K hK => ?_
    obtain ⟨c1, c2, c3⟩ := hC
    have e4 : a.tmps.getD 4 undef = .pointer (some ⟨b1, 0, none⟩) := hF.2.1
    clear hF hD
    exact wpE _ (.tmp 4) rfl c2 e4 Try.underlying24 rfl Try.sz24 (hK _ _ rfl (Below.refl _ _))
  · refine Obl.plain rfl _ rfl rfl [4, 5] (by kernel_rfl) fun a W hF hC hD K hK => ?_
    obtain ⟨c1, c2, c3⟩ := hC
    have e11 : a.tmps.getD 11 undef = .pointer (some ⟨b, 0, none⟩) := hD.1
    have e12 : a.tmps.getD 12 undef = vE (x) := hD.2.1
    clear hF hD
    go_simp
    refine (freduce_c b bm P n size x W c1 hx.out).mono ?_
    rintro e W' ⟨rfl, hb⟩
    exact hK _ _ rfl hb
  · refine Obl.plain rfl _ rfl rfl [] (by kernel_rfl) fun a W hF hC hD K hK => ?_
    have e0 : a.tmps.getD 0 undef = .pointer (some ⟨b, 0, none⟩) := hF.1
    clear hF hD hC
    go_simp
    exact hK _ _ rfl (Below.refl _ _)
  · refine Obl.plain rfl _ rfl rfl [] (by kernel_rfl) fun a W hF hC hD K hK => ?_
    obtain ⟨c1, c2, c3⟩ := hC
    have e5 : a.tmps.getD 5 undef = .pointer (some ⟨b2, 0, none⟩) := hF.2.2.1
    clear hF hD
    exact wpE _ (.tmp 5) rfl c3 e5 Try.underlying24 rfl Try.sz24 (hK _ _ rfl (Below.refl _ _))
  · refine Obl.plain rfl _ rfl rfl [7, 8, 6] (by kernel_rfl) fun a W hF hC hD K hK => ?_
    obtain ⟨c1, c2, c3⟩ := hC
    have e14 : a.tmps.getD 14 undef = .pointer (some ⟨b, 0, none⟩) := hD.1
    have e15 : a.tmps.getD 15 undef = vE (y) := hD.2.1
    clear hF hD
    go_simp
    refine (freduce_c b bm P n size y W c1 hy.out).mono ?_
    rintro e W' ⟨rfl, hb⟩
    exact hK _ _ rfl hb
  · refine Obl.plain rfl _ rfl rfl [3, 6, 9, 9] (by kernel_rfl) fun a W hF hC hD K hK => ?_
    obtain ⟨c1, c2, c3⟩ := hC
    have e10 : a.tmps.getD 10 undef = .pointer (some ⟨bm, 0, none⟩) := hD.1
    have e13 : a.tmps.getD 13 undef = vE (x % P) := hD.2.1
    have e16 : a.tmps.getD 16 undef = vE (y % P) := hD.2.2.1
    clear hF hD
    go_simp
    refine (fadd_m bm P n x y W c1.fb).mono ?_
    rintro e W' ⟨rfl, hb⟩
    exact hK _ _ rfl hb
  rintro w4 hB4 hC4 _ rfl _ rfl _ rfl _ rfl _ rfl _ rfl _ rfl _ rfl _ rfl _ rfl _ rfl
  change Below _ _ _ at hB4
  change wpList _ _ _ _ _ _
  simp only [List.drop_succ_cons, List.drop_zero, Act.put, List.setIfInBounds_toArray, List.set_cons_zero, List.set_cons_succ]
  have hb4 := hide hB4
  clear hB4 hC4
  go_wp2_with ((with_reducible refine storeT 24 (v' := (x + y) % P) (o := ⟨none, _, _, _, _, _⟩) ?_ (.tmp 6) (.tmp 17) ?_ ?_ ?_ (Hv3.out.next hb4.out) Try.sz24 ?_); rfl; rfl; rfl; rfl; intro w6 hv6 ho6)
  exact retT 24 rfl rfl hv6 Try.underlying24 rfl Try.sz24 rfl ⟨rfl, Only.below (below_next HB.out hb4.out) ho6.out Hb.out⟩

theorem fsub_m (bm P n x y : Nat) (w : World) (hF : FB w bm P n) :
    Calls Try.prog 77 #[.pointer (some ⟨bm, 0, none⟩), vE (x % P), vE (y % P)] w fun e w' => e = .returned (vE ((x + ng P y) % P)) ∧ Below w.heap.size w w' := by
  have hP : 0 < P := by have := hF.gt; omega
  have h := msub_any bm P n (x % P) (y % P) w hF (Nat.mod_lt x hP) (Nat.mod_lt y hP)
  have e : (x % P + P - y % P) % P = (x + ng P y) % P := by
    have := Nat.mod_lt y hP
    unfold ng
    rw [show x % P + P - y % P = x % P + (P - y % P) by omega, Nat.mod_add_mod]
  rw [e] at h; exact h

set_option maxRecDepth 100000 in
set_option maxHeartbeats 1600000 in
theorem fsub_c (b bm P n size x y : Nat) (w : World) (hF : FQ w b bm P n size) (hx : x < B64 ^ 6) (hy : y < B64 ^ 6) :
    Calls Try.prog 34 #[.pointer (some ⟨b, 0, none⟩), vE x, vE y] w fun e w' => e = .returned (vE ((x + ng P y) % P)) ∧ Below w.heap.size w w' := by
  go_enter Try.func34, Try.ntmps34
  have hF := hide hF
  have hx := hide hx
  have hy := hide hy
  go_upto_region 1 with (first
    | ((with_reducible refine boxT 24 (o := ⟨some 4, _, _, _, _, _⟩) ?_ (.tmp 1) ?_ (v := x) ?_ ?_); rfl; rfl; rfl; intro w1 b1 hv1 hn1)
    | ((with_reducible refine boxT 24 (o := ⟨some 5, _, _, _, _, _⟩) ?_ (.tmp 2) ?_ (v := y) ?_ ?_); rfl; rfl; rfl; intro w2 b2 hv2 hn2)
    | ((with_reducible refine allocT 24 (o := ⟨some 6, _, _, _, _, _⟩) ?_ ?_ Try.zr24 ?_); rfl; rfl; intro w3 b3 hv3 hn3))
  have HF := hide (((hF.out.next hn1.bl).next hn2.bl).next hn3.bl)
  have HB := hide (below_next (below_next hn1.bl hn2.bl) hn3.bl)
  have Hv1 := hide ((hv1.next hn2.bl).next hn3.bl)
  have Hv2 := hide (hv2.next hn3.bl)
  have Hv3 := hide hv3
  have Hb := hide (Nat.le_trans (Nat.le_trans hn1.bl.size hn2.bl.size) hn3.lo)
  have hP0 := HF.out.pos
  clear hv1 hv2 hv3 hn1 hn2 hn3 hF
  refine region_do 11 18 [fun v _ => v = .pointer (some ⟨b, 0, none⟩), fun v _ => v = .pointer (some ⟨b, 0, none⟩), fun v _ => v = .pointer (some ⟨b, 0, none⟩), fun v _ => v = .pointer (some ⟨bm, 0, none⟩), fun v _ => v = .pointer (some ⟨b, 0, none⟩), fun v _ => v = vE (x), fun v _ => v = vE (x % P), fun v _ => v = .pointer (some ⟨b, 0, none⟩), fun v _ => v = vE (y), fun v _ => v = vE (y % P), fun v _ => v = vE ((x + ng P y) % P)]
    [(0, .pointer (some ⟨b, 0, none⟩)), (4, .pointer (some ⟨b1, 0, none⟩)), (5, .pointer (some ⟨b2, 0, none⟩))] (fun w' => FQ w' b bm P n size ∧ VB w' b1 24 (ve x) ∧ VB w' b2 24 (ve y)) (fun w' => True) 999 none (by kernel_rfl) (by kernel_rfl) rfl rfl
    (.cons (Fact.eq _) rfl (.cons (Fact.eq _) rfl (.cons (Fact.eq _) rfl (.cons (Fact.eq _) rfl (.cons (Fact.eq _) rfl (.cons (Fact.eq _) rfl (.cons (Fact.eq _) rfl (.cons (Fact.eq _) rfl (.cons (Fact.eq _) rfl (.cons (Fact.eq _) rfl (.cons (Fact.eq _) rfl (.nil _)))))))))))) (fun w' h => ⟨HF.out.next h, Hv1.out.next h, Hv2.out.next h⟩) (fun w' h => trivial) (by kernel_rfl) ⟨rfl, rfl, rfl, trivial⟩ (.cons ?_ (.cons ?_ (.cons ?_ (.cons ?_ (.cons ?_ (.cons ?_ (.cons ?_ (.cons ?_ (.cons ?_ (.cons ?_ (.cons ?_ .nil))))))))))) ?_
  · refine Obl.plain rfl _ rfl rfl [] (by kernel_rfl) fun a W hF hC hD K hK => ?_
    have e0 : a.tmps.getD 0 undef = .pointer (some ⟨b, 0, none⟩) := hF.1
    clear hF hD hC
    go_simp
    exact hK _ _ rfl (Below.refl _ _)
  · refine Obl.plain rfl _ rfl rfl [0] (by kernel_rfl) fun a W hF hC hD K hK => ?_
    have e7 : a.tmps.getD 7 undef = .pointer (some ⟨b, 0, none⟩) := hD.1
    clear hF hD hC
    go_simp
    exact hK _ _ rfl (Below.refl _ _)
  · refine Obl.plain rfl _ rfl rfl [1] (by kernel_rfl) fun a W hF hC hD K hK => ?_
    have e8 : a.tmps.getD 8 undef = .pointer (some ⟨b, 0, none⟩) := hD.1
    clear hF hD hC
    go_simp
    exact hK _ _ rfl (Below.refl _ _)
  · refine Obl.plain rfl _ rfl rfl [2] (by kernel_rfl) fun a W hF hC hD K hK => ?_
    obtain ⟨c1, c2, c3⟩ := hC
    have e9 : a.tmps.getD 9 undef = .pointer (some ⟨b, 0, none⟩) := hD.1
    clear hF hD
    have f0 := c1.cellM
    go_simp
    exact hK _ _ rfl (Below.refl _ _)
  · refine Obl.plain rfl _ rfl rfl [] (by kernel_rfl) fun a W hF hC hD K hK => ?_
    have e0 : a.tmps.getD 0 undef = .pointer (some ⟨b, 0, none⟩) := hF.1
    clear hF hD hC
    go_simp
    exact hK _ _ rfl (Below.refl _ _)
  · refine Obl.plain rfl _ rfl rfl [] (by kernel_rfl) fun a W hF hC hD K hK => ?_
    obtain ⟨c1, c2, c3⟩ := hC
    have e4 : a.tmps.getD 4 undef = .pointer (some ⟨b1, 0, none⟩) := hF.2.1
    clear hF hD
    exact wpE _ (.tmp 4) rfl c2 e4 Try.underlying24 rfl Try.sz24 (hK _ _ rfl (Below.refl _ _))
  · refine Obl.plain rfl _ rfl rfl [4, 5] (by kernel_rfl) fun a W hF hC hD K hK => ?_
    obtain ⟨c1, c2, c3⟩ := hC
    have e11 : a.tmps.getD 11 undef = .pointer (some ⟨b, 0, none⟩) := hD.1
    have e12 : a.tmps.getD 12 undef = vE (x) := hD.2.1
    clear hF hD
    go_simp
    refine (freduce_c b bm P n size x W c1 hx.out).mono ?_
    rintro e W' ⟨rfl, hb⟩
    exact hK _ _ rfl hb
  · refine Obl.plain rfl _ rfl rfl [] (by kernel_rfl) fun a W hF hC hD K hK => ?_
    have e0 : a.tmps.getD 0 undef = .pointer (some ⟨b, 0, none⟩) := hF.1
    clear hF hD hC
    go_simp
    exact hK _ _ rfl (Below.refl _ _)
  · refine Obl.plain rfl _ rfl rfl [] (by kernel_rfl) fun a W hF hC hD K hK => ?_
    obtain ⟨c1, c2, c3⟩ := hC
    have e5 : a.tmps.getD 5 undef = .pointer (some ⟨b2, 0, none⟩) := hF.2.2.1
    clear hF hD
    exact wpE _ (.tmp 5) rfl c3 e5 Try.underlying24 rfl Try.sz24 (hK _ _ rfl (Below.refl _ _))
  · refine Obl.plain rfl _ rfl rfl [7, 8, 6] (by kernel_rfl) fun a W hF hC hD K hK => ?_
    obtain ⟨c1, c2, c3⟩ := hC
    have e14 : a.tmps.getD 14 undef = .pointer (some ⟨b, 0, none⟩) := hD.1
    have e15 : a.tmps.getD 15 undef = vE (y) := hD.2.1
    clear hF hD
    go_simp
    refine (freduce_c b bm P n size y W c1 hy.out).mono ?_
    rintro e W' ⟨rfl, hb⟩
    exact hK _ _ rfl hb
  · refine Obl.plain rfl _ rfl rfl [3, 6, 9, 9] (by kernel_rfl) fun a W hF hC hD K hK => ?_
    obtain ⟨c1, c2, c3⟩ := hC
    have e10 : a.tmps.getD 10 undef = .pointer (some ⟨bm, 0, none⟩) := hD.1
    have e13 : a.tmps.getD 13 undef = vE (x % P) := hD.2.1
    have e16 : a.tmps.getD 16 undef = vE (y % P) := hD.2.2.1
    clear hF hD
    go_simp
    refine (fsub_m bm P n x y W c1.fb).mono ?_
    rintro e W' ⟨rfl, hb⟩
    exact hK _ _ rfl hb
  rintro w4 hB4 hC4 _ rfl _ rfl _ rfl _ rfl _ rfl _ rfl _ rfl _ rfl _ rfl _ rfl _ rfl
  change Below _ _ _ at hB4
  change wpList _ _ _ _ _ _
  simp only [List.drop_succ_cons, List.drop_zero, Act.put, List.setIfInBounds_toArray, List.set_cons_zero, List.set_cons_succ]
  have hb4 := hide hB4
  clear hB4 hC4
  go_wp2_with ((with_reducible refine storeT 24 (v' := (x + ng P y) % P) (o := ⟨none, _, _, _, _, _⟩) ?_ (.tmp 6) (.tmp 17) ?_ ?_ ?_ (Hv3.out.next hb4.out) Try.sz24 ?_); rfl; rfl; rfl; rfl; intro w6 hv6 ho6)
  exact retT 24 rfl rfl hv6 Try.underlying24 rfl Try.sz24 rfl ⟨rfl, Only.below (below_next HB.out hb4.out) ho6.out Hb.out⟩

set_option maxRecDepth 100000 in
set_option maxHeartbeats 1600000 in
theorem fmul_c (b bm P n size x y : Nat) (w : World) (hF : FQ w b bm P n size) (hx : x < B64 ^ 6) (hy : y < B64 ^ 6) :
    Calls Try.prog 19 #[.pointer (some ⟨b, 0, none⟩), vE x, vE y] w fun e w' => e = .returned (vE (x * y % P)) ∧ Below w.heap.size w w' := by
  go_enter Try.func19, Try.ntmps19
  have hF := hide hF
  have hx := hide hx
  have hy := hide hy
  go_upto_region 1 with (first
    | ((with_reducible refine boxT 24 (o := ⟨some 4, _, _, _, _, _⟩) ?_ (.tmp 1) ?_ (v := x) ?_ ?_); rfl; rfl; rfl; intro w1 b1 hv1 hn1)
    | ((with_reducible refine boxT 24 (o := ⟨some 5, _, _, _, _, _⟩) ?_ (.tmp 2) ?_ (v := y) ?_ ?_); rfl; rfl; rfl; intro w2 b2 hv2 hn2)
    | ((with_reducible refine allocT 24 (o := ⟨some 6, _, _, _, _, _⟩) ?_ ?_ Try.zr24 ?_); rfl; rfl; intro w3 b3 hv3 hn3))
  have HF := hide (((hF.out.next hn1.bl).next hn2.bl).next hn3.bl)
  have HB := hide (below_next (below_next hn1.bl hn2.bl) hn3.bl)
  have Hv1 := hide ((hv1.next hn2.bl).next hn3.bl)
  have Hv2 := hide (hv2.next hn3.bl)
  have Hv3 := hide hv3
  have Hb := hide (Nat.le_trans (Nat.le_trans hn1.bl.size hn2.bl.size) hn3.lo)
  have hP0 := HF.out.pos
  clear hv1 hv2 hv3 hn1 hn2 hn3 hF
  refine region_do 13 20 [fun v _ => v = .pointer (some ⟨b, 0, none⟩), fun v _ => v = .pointer (some ⟨b, 0, none⟩), fun v _ => v = .pointer (some ⟨b, 0, none⟩), fun v _ => v = .pointer (some ⟨b, 0, none⟩), fun v _ => v = .pointer (some ⟨bm, 0, none⟩), fun v _ => v = .pointer (some ⟨b, 0, none⟩), fun v _ => v = vE (x), fun v _ => v = vE (mf P n x), fun v _ => v = .pointer (some ⟨b, 0, none⟩), fun v _ => v = vE (y), fun v _ => v = vE (mf P n y), fun v _ => v = vE (mf P n (x * y)), fun v _ => v = vE (x * y % P)]
    [(0, .pointer (some ⟨b, 0, none⟩)), (4, .pointer (some ⟨b1, 0, none⟩)), (5, .pointer (some ⟨b2, 0, none⟩))] (fun w' => FQ w' b bm P n size ∧ VB w' b1 24 (ve x) ∧ VB w' b2 24 (ve y)) (fun w' => True) 999 none (by kernel_rfl) (by kernel_rfl) rfl rfl
    (.cons (Fact.eq _) rfl (.cons (Fact.eq _) rfl (.cons (Fact.eq _) rfl (.cons (Fact.eq _) rfl (.cons (Fact.eq _) rfl (.cons (Fact.eq _) rfl (.cons (Fact.eq _) rfl (.cons (Fact.eq _) rfl (.cons (Fact.eq _) rfl (.cons (Fact.eq _) rfl (.cons (Fact.eq _) rfl (.cons (Fact.eq _) rfl (.cons (Fact.eq _) rfl (.nil _)))))))))))))) (fun w' h => ⟨HF.out.next h, Hv1.out.next h, Hv2.out.next h⟩) (fun w' h => trivial) (by kernel_rfl) ⟨rfl, rfl, rfl, trivial⟩ (.cons ?_ (.cons ?_ (.cons ?_ (.cons ?_ (.cons ?_ (.cons ?_ (.cons ?_ (.cons ?_ (.cons ?_ (.cons ?_ (.cons ?_ (.cons ?_ (.cons ?_ .nil))))))))))))) ?_
  · refine Obl.plain rfl _ rfl rfl [] (by kernel_rfl) fun a W hF hC hD K hK => ?_
    have e0 : a.tmps.getD 0 undef = .pointer (some ⟨b, 0, none⟩) := hF.1
    clear hF hD hC
    go_simp
    exact hK _ _ rfl (Below.refl _ _)
  · refine Obl.plain rfl _ rfl rfl [] (by kernel_rfl) fun a W hF hC hD K hK => ?_
    have e0 : a.tmps.getD 0 undef = .pointer (some ⟨b, 0, none⟩) := hF.1
    clear hF hD hC
    go_simp
    exact hK _ _ rfl (Below.refl _ _)
  · refine Obl.plain rfl _ rfl rfl [1] (by kernel_rfl) fun a W hF hC hD K hK => ?_
    have e8 : a.tmps.getD 8 undef = .pointer (some ⟨b, 0, none⟩) := hD.1
    clear hF hD hC
    go_simp
    exact hK _ _ rfl (Below.refl _ _)
  · refine Obl.plain rfl _ rfl rfl [2] (by kernel_rfl) fun a W hF hC hD K hK => ?_
    have e9 : a.tmps.getD 9 undef = .pointer (some ⟨b, 0, none⟩) := hD.1
    clear hF hD hC
    go_simp
    exact hK _ _ rfl (Below.refl _ _)
  · refine Obl.plain rfl _ rfl rfl [3] (by kernel_rfl) fun a W hF hC hD K hK => ?_
    obtain ⟨c1, c2, c3⟩ := hC
    have e10 : a.tmps.getD 10 undef = .pointer (some ⟨b, 0, none⟩) := hD.1
    clear hF hD
    have f0 := c1.cellM
    go_simp
    exact hK _ _ rfl (Below.refl _ _)
  · refine Obl.plain rfl _ rfl rfl [] (by kernel_rfl) fun a W hF hC hD K hK => ?_
    have e0 : a.tmps.getD 0 undef = .pointer (some ⟨b, 0, none⟩) := hF.1
    clear hF hD hC
    go_simp
    exact hK _ _ rfl (Below.refl _ _)
  · refine Obl.plain rfl _ rfl rfl [] (by kernel_rfl) fun a W hF hC hD K hK => ?_
    obtain ⟨c1, c2, c3⟩ := hC
    have e4 : a.tmps.getD 4 undef = .pointer (some ⟨b1, 0, none⟩) := hF.2.1
    clear hF hD
    exact wpE _ (.tmp 4) rfl c2 e4 Try.underlying24 rfl Try.sz24 (hK _ _ rfl (Below.refl _ _))
  · refine Obl.plain rfl _ rfl rfl [5, 6] (by kernel_rfl) fun a W hF hC hD K hK => ?_
    obtain ⟨c1, c2, c3⟩ := hC
    have e12 : a.tmps.getD 12 undef = .pointer (some ⟨b, 0, none⟩) := hD.1
    have e13 : a.tmps.getD 13 undef = vE (x) := hD.2.1
    clear hF hD
    go_simp
    refine (fin_c b bm P n size x W c1 hx.out).mono ?_
    rintro e W' ⟨rfl, hb⟩
    exact hK _ _ rfl hb
  · refine Obl.plain rfl _ rfl rfl [] (by kernel_rfl) fun a W hF hC hD K hK => ?_
    have e0 : a.tmps.getD 0 undef = .pointer (some ⟨b, 0, none⟩) := hF.1
    clear hF hD hC
    go_simp
    exact hK _ _ rfl (Below.refl _ _)
  · refine Obl.plain rfl _ rfl rfl [] (by kernel_rfl) fun a W hF hC hD K hK => ?_
    obtain ⟨c1, c2, c3⟩ := hC
    have e5 : a.tmps.getD 5 undef = .pointer (some ⟨b2, 0, none⟩) := hF.2.2.1
    clear hF hD
    exact wpE _ (.tmp 5) rfl c3 e5 Try.underlying24 rfl Try.sz24 (hK _ _ rfl (Below.refl _ _))
  · refine Obl.plain rfl _ rfl rfl [8, 9, 7] (by kernel_rfl) fun a W hF hC hD K hK => ?_
    obtain ⟨c1, c2, c3⟩ := hC
    have e15 : a.tmps.getD 15 undef = .pointer (some ⟨b, 0, none⟩) := hD.1
    have e16 : a.tmps.getD 16 undef = vE (y) := hD.2.1
    clear hF hD
    go_simp
    refine (fin_c b bm P n size y W c1 hy.out).mono ?_
    rintro e W' ⟨rfl, hb⟩
    exact hK _ _ rfl hb
  · refine Obl.plain rfl _ rfl rfl [4, 7, 10, 10] (by kernel_rfl) fun a W hF hC hD K hK => ?_
    obtain ⟨c1, c2, c3⟩ := hC
    have e11 : a.tmps.getD 11 undef = .pointer (some ⟨bm, 0, none⟩) := hD.1
    have e14 : a.tmps.getD 14 undef = vE (mf P n x) := hD.2.1
    have e17 : a.tmps.getD 17 undef = vE (mf P n y) := hD.2.2.1
    clear hF hD
    go_simp
    refine (mmul_c bm P n x y W c1.fb c1.inv).mono ?_
    rintro e W' ⟨rfl, hb⟩
    exact hK _ _ rfl hb
  · refine Obl.plain rfl _ rfl rfl [0, 11, 11] (by kernel_rfl) fun a W hF hC hD K hK => ?_
    obtain ⟨c1, c2, c3⟩ := hC
    have e7 : a.tmps.getD 7 undef = .pointer (some ⟨b, 0, none⟩) := hD.1
    have e18 : a.tmps.getD 18 undef = vE (mf P n (x * y)) := hD.2.1
    clear hF hD
    go_simp
    refine (fout_c b bm P n size (x * y) W c1).mono ?_
    rintro e W' ⟨rfl, hb⟩
    exact hK _ _ rfl hb
  rintro w4 hB4 hC4 _ rfl _ rfl _ rfl _ rfl _ rfl _ rfl _ rfl _ rfl _ rfl _ rfl _ rfl _ rfl _ rfl
  change Below _ _ _ at hB4
  change wpList _ _ _ _ _ _
  simp only [List.drop_succ_cons, List.drop_zero, Act.put, List.setIfInBounds_toArray, List.set_cons_zero, List.set_cons_succ]
  have hb4 := hide hB4
  clear hB4 hC4
  go_wp2_with ((with_reducible refine storeT 24 (v' := x * y % P) (o := ⟨none, _, _, _, _, _⟩) ?_ (.tmp 6) (.tmp 19) ?_ ?_ ?_ (Hv3.out.next hb4.out) Try.sz24 ?_); rfl; rfl; rfl; rfl; intro w6 hv6 ho6)
  exact retT 24 rfl rfl hv6 Try.underlying24 rfl Try.sz24 rfl ⟨rfl, Only.below (below_next HB.out hb4.out) ho6.out Hb.out⟩

set_option maxRecDepth 100000 in
theorem fneg_c (b bm P n size y : Nat) (w : World) (hF : FQ w b bm P n size) (hy : y < B64 ^ 6) :
    Calls Try.prog 36 #[.pointer (some ⟨b, 0, none⟩), vE y] w fun e w' => e = .returned (vE (ng P y % P)) ∧ Below w.heap.size w w' := by
  go_enter Try.func36, Try.ntmps36
  have hF := hide hF
  have hy := hide hy
  go_wp2_with (first
    | ((with_reducible refine boxT 24 (o := ⟨some 3, _, _, _, _, _⟩) ?_ (.tmp 1) ?_ (v := y) ?_ ?_); rfl; rfl; rfl; intro w1 b1 hv1 hn1)
    | ((with_reducible refine allocT 24 (o := ⟨some 4, _, _, _, _, _⟩) ?_ ?_ Try.zr24 ?_); rfl; rfl; intro w3 b3 hv3 hn3)
    | ((with_reducible refine loadT 24 (o := ⟨some 7, _, _, _, _, _⟩) ?_ (.tmp 3) ?_ ?_ (hv1.next hn3.bl) Try.underlying24 rfl Try.sz24 ?_); rfl; rfl; rfl)
    | (go_at_call 34; have h0 := fsub_c b bm P n size 0 y w3 ((hF.out.next hn1.bl).next hn3.bl) (pw_pos 6) hy.out; rw [Nat.zero_add] at h0; refine h0.mono ?_; rintro e w4 ⟨rfl, hb4⟩; replace hb4 := hide hb4; clear h0)
    | ((with_reducible refine storeT 24 (v' := ng P y % P) (o := ⟨none, _, _, _, _, _⟩) ?_ (.tmp 4) (.tmp 8) ?_ ?_ ?_ (hv3.next hb4.out) Try.sz24 ?_); rfl; rfl; rfl; rfl; intro w6 hv6 ho6))
  exact retT 24 rfl rfl hv6 Try.underlying24 rfl Try.sz24 rfl ⟨rfl, Only.below (below_next (below_next hn1.bl hn3.bl) hb4.out) ho6.out (by have := hn1.sz; have := hn3.lo; omega)⟩
end Go.Proofs.Ytincemkjdgbnnaa

set_option linter.unusedVariables false
set_option linter.unusedSimpArgs false
namespace Go.Proofs.Ytincemkjdgbnnaa
open Go.RowKit Lm

section
variable (w : World)
theorem eqArr (ty : TypeId) (hu : Try.prog.underlying ty = some (.array 6 22)) (a0 a1 a2 a3 a4 a5 b0 b1 b2 b3 b4 b5 : Int) :
    (Op.equalIn 10000 ty (.agg #[.int .u64 a0, .int .u64 a1, .int .u64 a2, .int .u64 a3, .int .u64 a4, .int .u64 a5]) (.agg #[.int .u64 b0, .int .u64 b1, .int .u64 b2, .int .u64 b3, .int .u64 b4, .int .u64 b5])).run Try.prog w =
      .ok (decide (a0 = b0 ∧ a1 = b1 ∧ a2 = b2 ∧ a3 = b3 ∧ a4 = b4 ∧ a5 = b5)) w := by
  have u3 := Try.underlying22
  have a3' := Try.isAgg22
  have z3 := Try.sizeOf22
  rw [show (10000 : Nat) = 9999 + 1 from rfl, Op.equalIn]
  simp only [Sem.run_bind, run_underlying hu, Result.andThen_ok]
  simp only [Std.Legacy.Range.forIn_eq_forIn_range', Std.Legacy.Range.size, Nat.sub_zero, Nat.add_sub_cancel, Nat.div_one, List.range'_succ, List.range'_zero, List.forIn_cons, List.forIn_nil]
  go_simp
  by_cases h0 : a0 = b0 <;> by_cases h1 : a1 = b1 <;> by_cases h2 : a2 = b2 <;> by_cases h3 : a3 = b3 <;> by_cases h4 : a4 = b4 <;> by_cases h5 : a5 = b5 <;> simp [h0, h1, h2, h3, h4, h5]
theorem fix6_list (x : Nat) : ∃ a b c d e f : Nat, fix B64 6 x = [a, b, c, d, e, f] := ⟨_, _, _, _, _, _, rfl⟩
/-- are two lists of six digits the same? -/
def eqv (x y : Nat) : Bool := decide (x % B64 ^ 6 = y % B64 ^ 6)
theorem eqv_lt {x y : Nat} (hx : x < B64 ^ 6) (hy : y < B64 ^ 6) : eqv x y = decide (x = y) := by unfold eqv; rw [Nat.mod_eq_of_lt hx, Nat.mod_eq_of_lt hy]
theorem fix_inj6 {x y : Nat} : fix B64 6 x = fix B64 6 y ↔ x % B64 ^ 6 = y % B64 ^ 6 := by
  constructor
  · intro h; have := congrArg (val B64) h; rwa [val_fix, val_fix] at this
  · intro h; exact val_inj (fix_ok B64_pos _ _) (fix_ok B64_pos _ _) (by rw [fix_length, fix_length]) (by rw [val_fix, val_fix, h])
theorem eqVE (ty : TypeId) (hu : Try.prog.underlying ty = some (.array 6 22)) (x y : Nat) : (Op.equalIn 10000 ty (vE x) (vE y)).run Try.prog w = .ok (eqv x y) w := by
  obtain ⟨a0, a1, a2, a3, a4, a5, ha⟩ := fix6_list x
  obtain ⟨b0, b1, b2, b3, b4, b5, hb⟩ := fix6_list y
  have hx : vE x = .agg #[.int .u64 a0, .int .u64 a1, .int .u64 a2, .int .u64 a3, .int .u64 a4, .int .u64 a5] := by unfold vE ve nums; rw [ha]; rfl
  have hy : vE y = .agg #[.int .u64 b0, .int .u64 b1, .int .u64 b2, .int .u64 b3, .int .u64 b4, .int .u64 b5] := by unfold vE ve nums; rw [hb]; rfl
  rw [hx, hy, eqArr w ty hu]
  have hiff : ((a0 : Int) = b0 ∧ (a1 : Int) = b1 ∧ (a2 : Int) = b2 ∧ (a3 : Int) = b3 ∧ (a4 : Int) = b4 ∧ (a5 : Int) = b5) ↔ x % B64 ^ 6 = y % B64 ^ 6 := by
    rw [← fix_inj6, ha, hb]
    simp only [List.cons.injEq, and_true, Int.ofNat_inj]
  exact congrArg (fun b => Result.ok b w) (decide_eq_decide.2 hiff)
end
@[go_sem] theorem bin_eqlE (x y : Nat) (w : World) : (binOp .eql 98 (vE x) (vE y)).run Try.prog w = .ok (.bool (eqv x y)) w := by
  have h := run_eql_struct (P := Try.prog) (w := w) 98 (ve x).toArray (ve y).toArray
  have e := eqVE w 98 Try.underlying98 x y
  unfold vE at e ⊢
  rw [h, e]; rfl
@[go_sem] theorem bin_eqlEz (x : Nat) (w : World) : (binOp .eql 98 (vE x) (.agg #[.int .u64 0, .int .u64 0, .int .u64 0, .int .u64 0, .int .u64 0, .int .u64 0])).run Try.prog w = .ok (.bool (eqv x 0)) w := bin_eqlE x 0 w
@[go_sem] theorem bin_neqE (x y : Nat) (w : World) : (binOp .neq 98 (vE x) (vE y)).run Try.prog w = .ok (.bool (!eqv x y)) w := by
  have h := run_neq_struct (P := Try.prog) (w := w) 98 (ve x).toArray (ve y).toArray
  have e := eqVE w 98 Try.underlying98 x y
  unfold vE at e ⊢
  rw [h, e]; rfl
@[go_sem] theorem bin_neqEz (x : Nat) (w : World) : (binOp .neq 98 (vE x) (.agg #[.int .u64 0, .int .u64 0, .int .u64 0, .int .u64 0, .int .u64 0, .int .u64 0])).run Try.prog w = .ok (.bool (!eqv x 0)) w := bin_neqE x 0 w
@[go_sem] theorem grdE (op : BinOp) (a b : Operand) (x y : Nat) (w : World) : (eqGuard op 98 a b (vE x) (vE y)).run Try.prog w = .ok () w := run_eqGuard_agg w op _ a b (ve x).toArray (ve y).toArray (by kernel_rfl)
@[go_sem] theorem grdEz (op : BinOp) (a b : Operand) (x : Nat) (w : World) : (eqGuard op 98 a b (vE x) (.agg #[.int .u64 0, .int .u64 0, .int .u64 0, .int .u64 0, .int .u64 0, .int .u64 0])).run Try.prog w = .ok () w := grdE op a b x 0 w
@[go_sem] theorem bin_eqlN (x y : Nat) (w : World) : (binOp .eql 24 (vE x) (vE y)).run Try.prog w = .ok (.bool (eqv x y)) w := by
  have h := run_eql_struct (P := Try.prog) (w := w) 24 (ve x).toArray (ve y).toArray
  have e := eqVE w 24 Try.underlying24 x y
  unfold vE at e ⊢
  rw [h, e]; rfl
@[go_sem] theorem bin_eqlNz (x : Nat) (w : World) : (binOp .eql 24 (vE x) (.agg #[.int .u64 0, .int .u64 0, .int .u64 0, .int .u64 0, .int .u64 0, .int .u64 0])).run Try.prog w = .ok (.bool (eqv x 0)) w := bin_eqlN x 0 w
@[go_sem] theorem bin_neqN (x y : Nat) (w : World) : (binOp .neq 24 (vE x) (vE y)).run Try.prog w = .ok (.bool (!eqv x y)) w := by
  have h := run_neq_struct (P := Try.prog) (w := w) 24 (ve x).toArray (ve y).toArray
  have e := eqVE w 24 Try.underlying24 x y
  unfold vE at e ⊢
  rw [h, e]; rfl
@[go_sem] theorem bin_neqNz (x : Nat) (w : World) : (binOp .neq 24 (vE x) (.agg #[.int .u64 0, .int .u64 0, .int .u64 0, .int .u64 0, .int .u64 0, .int .u64 0])).run Try.prog w = .ok (.bool (!eqv x 0)) w := bin_neqN x 0 w
@[go_sem] theorem grdN (op : BinOp) (a b : Operand) (x y : Nat) (w : World) : (eqGuard op 24 a b (vE x) (vE y)).run Try.prog w = .ok () w := run_eqGuard_agg w op _ a b (ve x).toArray (ve y).toArray (by kernel_rfl)
@[go_sem] theorem grdNz (op : BinOp) (a b : Operand) (x : Nat) (w : World) : (eqGuard op 24 a b (vE x) (.agg #[.int .u64 0, .int .u64 0, .int .u64 0, .int .u64 0, .int .u64 0, .int .u64 0])).run Try.prog w = .ok () w := grdN op a b x 0 w

/-- the end of a function with two results: six numbers that lie in a block, and a slot. -/
theorem retTT (ty : TypeId) {fn : Func} {R : Ending → World → Prop} {a : Act} {w : World} {p u : Tmp} (hr : fn.results = #[.cell p ty, .tmp u]) {b v : Nat} {t : TypeId} (hp : a.tmps.getD p undef = .pointer (some ⟨b, 0, none⟩)) {z : Value} (hz : a.tmps.getD u undef = z)
    (hv : VB w b t (ve v)) {d : TypeDesc} (hu : Try.prog.underlying ty = some d) (hd : d.isRow = true) (hi : (Try.prog.info? ty).map (·.size) = some 6) (hdf : a.defers = []) (hR : R (.returned (.tuple #[vE v, z])) w) : bodyPost Try.prog fn R .ret a w := by
  refine bodyPost_ret (v := .tuple #[vE v, z]) ?_ hdf hR
  have hl := run_loadVar_row (P := Try.prog) w b t ty (ve v).toArray (0, 0) d hv hu (by cases d <;> simp_all [TypeDesc.isRow]) (by rw [hi]; simp [ve_length])
  rw [results_cell_tmp hr, hp, hz]
  simp only [asAddr, Sem.run_pure, Result.andThen_ok, hl]
  rfl

set_option maxRecDepth 100000 in
set_option maxHeartbeats 1600000 in
theorem finv_c (b bm P n size x : Nat) (w : World) (hF : FQ w b bm P n size) (hx : x < B64 ^ 6) :
    Calls Try.prog 27 #[.pointer (some ⟨b, 0, none⟩), vE x] w fun e w' => e = .returned (.tuple #[vE (x ^ (P - 2) % P), .bool (decide (x % P ≠ 0))]) ∧ Below w.heap.size w w' := by
  go_enter Try.func27, Try.ntmps27
  have hF := hide hF
  have hx := hide hx
  go_upto_region 2 with (first
    | ((with_reducible refine boxT 24 (o := ⟨some 3, _, _, _, _, _⟩) ?_ (.tmp 1) ?_ (v := x) ?_ ?_); rfl; rfl; rfl; intro w1 b1 hv1 hn1)
    | ((with_reducible refine allocT 24 (o := ⟨some 4, _, _, _, _, _⟩) ?_ ?_ Try.zr24 ?_); rfl; rfl; intro w2 b2 hv2 hn2)
    | ((with_reducible refine loadT 24 (o := ⟨some 8, _, _, _, _, _⟩) ?_ (.tmp 3) ?_ ?_ (hv1.next hn2.bl) Try.underlying24 rfl Try.sz24 ?_); rfl; rfl; rfl)
    | (go_at_call 65; refine (fin_c b bm P n size x w2 ((hF.out.next hn1.bl).next hn2.bl) hx.out).mono ?_; rintro e w3 ⟨rfl, hb3⟩; replace hb3 := hide hb3)
    | ((with_reducible refine allocN (o := ⟨some 6, _, _, _, _, _⟩) ?_ ?_ ?_); rfl; rfl; intro w4 b4 hv4 hn4)
    | ((with_reducible refine storeE (v' := mf P n x) (o := ⟨none, _, _, _, _, _⟩) ?_ (.tmp 6) (.tmp 9) ?_ ?_ ?_ hv4 ?_); rfl; rfl; rfl; rfl; intro w5 hv5 ho5))
  have hB4 := below_next (below_next (below_next hn1.bl hn2.bl) hb3.out) hn4.bl
  have Hb := hide (show w.heap.size ≤ b2 ∧ b2 < b4 ∧ b < b2 ∧ bm < b2 from
    ⟨Nat.le_trans hn1.bl.size hn2.lo, Nat.lt_of_lt_of_le (Nat.lt_of_lt_of_le hn2.hi hb3.out.size) hn4.lo,
      Nat.lt_of_lt_of_le (hF.out.next hn1.bl).vb.lt hn2.lo, Nat.lt_of_lt_of_le (hF.out.next hn1.bl).fb.vb.lt hn2.lo⟩)
  have HB := hide (Only.below hB4 ho5.out (by have := Hb.out; omega))
  have Hv2 := hide (ho5.out.vb ((hv2.next hb3.out).next hn4.bl) (by have := Hb.out; omega))
  have Hv5 := hide hv5
  have HF := hide (((((hF.out.next hn1.bl).next hn2.bl).next hb3.out).next hn4.bl).only ho5.out (by have := Hb.out; omega) (by have := Hb.out; omega))
  have hP0 := HF.out.pos
  clear hv1 hv2 hv4 hv5 hn1 hn2 hn4 ho5 hb3 hB4 hF
  refine region_do 12 21 [fun v _ => v = .pointer (some ⟨b, 0, none⟩), fun v _ => v = .pointer (some ⟨b, 0, none⟩), fun v _ => v = .pointer (some ⟨b, 0, none⟩), fun v _ => v = .pointer (some ⟨b, 0, none⟩), fun v _ => v = .pointer (some ⟨bm, 0, none⟩), fun v _ => v = vE (mf P n x), fun v _ => v = vE (mf P n (x ^ (P - 2))), fun v _ => v = vE (x ^ (P - 2) % P), fun v _ => v = vE (mf P n x), fun v _ => v = vE (0), fun v _ => v = .bool (!eqv (mf P n x) 0), fun _ w => VB w b2 24 (ve (x ^ (P - 2) % P))]
    [(0, .pointer (some ⟨b, 0, none⟩)), (6, .pointer (some ⟨b4, 0, none⟩)), (4, .pointer (some ⟨b2, 0, none⟩))] (fun w' => FQ w' b bm P n size ∧ VB w' b4 98 (ve (mf P n x))) (fun w' => VB w' b2 24 (ve 0)) 11 (some b2) (by kernel_rfl) (by kernel_rfl) rfl rfl
    (.cons (Fact.eq _) rfl (.cons (Fact.eq _) rfl (.cons (Fact.eq _) rfl (.cons (Fact.eq _) rfl (.cons (Fact.eq _) rfl (.cons (Fact.eq _) rfl (.cons (Fact.eq _) rfl (.cons (Fact.eq _) rfl (.cons (Fact.eq _) rfl (.cons (Fact.eq _) rfl (.cons (Fact.eq _) rfl (.store (fun w w' h hb => h.next hb) rfl (.nil _))))))))))))) (fun w' h => ⟨HF.out.only h (by have := Hb.out; omega) (by have := Hb.out; omega), h.vb Hv5.out (by have := Hb.out; omega)⟩) (fun w' h => Hv2.out.next h) (by kernel_rfl) ⟨rfl, rfl, rfl, trivial⟩ (.cons ?_ (.cons ?_ (.cons ?_ (.cons ?_ (.cons ?_ (.cons ?_ (.cons ?_ (.cons ?_ (.cons ?_ (.cons ?_ (.cons ?_ (.cons ?_ .nil)))))))))))) ?_
  · refine Obl.plain rfl _ rfl rfl [] (by kernel_rfl) fun a W hF hC hD K hK => ?_
    have e0 : a.tmps.getD 0 undef = .pointer (some ⟨b, 0, none⟩) := hF.1
    clear hF hD hC
    go_simp
    exact hK _ _ rfl (Below.refl _ _)
  · refine Obl.plain rfl _ rfl rfl [] (by kernel_rfl) fun a W hF hC hD K hK => ?_
    have e0 : a.tmps.getD 0 undef = .pointer (some ⟨b, 0, none⟩) := hF.1
    clear hF hD hC
    go_simp
    exact hK _ _ rfl (Below.refl _ _)
  · refine Obl.plain rfl _ rfl rfl [1] (by kernel_rfl) fun a W hF hC hD K hK => ?_
    have e11 : a.tmps.getD 11 undef = .pointer (some ⟨b, 0, none⟩) := hD.1
    clear hF hD hC
    go_simp
    exact hK _ _ rfl (Below.refl _ _)
  · refine Obl.plain rfl _ rfl rfl [2] (by kernel_rfl) fun a W hF hC hD K hK => ?_
    have e12 : a.tmps.getD 12 undef = .pointer (some ⟨b, 0, none⟩) := hD.1
    clear hF hD hC
    go_simp
    exact hK _ _ rfl (Below.refl _ _)
  · refine Obl.plain rfl _ rfl rfl [3] (by kernel_rfl) fun a W hF hC hD K hK => ?_
    obtain ⟨c1, c2⟩ := hC
    have e13 : a.tmps.getD 13 undef = .pointer (some ⟨b, 0, none⟩) := hD.1
    clear hF hD
    have f0 := c1.cellM
    go_simp
    exact hK _ _ rfl (Below.refl _ _)
  · refine Obl.plain rfl _ rfl rfl [] (by kernel_rfl) fun a W hF hC hD K hK => ?_
    obtain ⟨c1, c2⟩ := hC
    have e6 : a.tmps.getD 6 undef = .pointer (some ⟨b4, 0, none⟩) := hF.2.1
    clear hF hD
    exact wpE _ (.tmp 6) rfl c2 e6 Try.underlying98 rfl Try.sz98 (hK _ _ rfl (Below.refl _ _))
  · refine Obl.plain rfl _ rfl rfl [4, 5] (by kernel_rfl) fun a W hF hC hD K hK => ?_
    obtain ⟨c1, c2⟩ := hC
    have e14 : a.tmps.getD 14 undef = .pointer (some ⟨bm, 0, none⟩) := hD.1
    have e15 : a.tmps.getD 15 undef = vE (mf P n x) := hD.2.1
    clear hF hD
    go_simp
    refine (minv_c bm P n x W c1.fb c1.inv).mono ?_
    rintro e W' ⟨rfl, hb⟩
    exact hK _ _ rfl hb
  · refine Obl.plain rfl _ rfl rfl [0, 6, 6] (by kernel_rfl) fun a W hF hC hD K hK => ?_
    obtain ⟨c1, c2⟩ := hC
    have e10 : a.tmps.getD 10 undef = .pointer (some ⟨b, 0, none⟩) := hD.1
    have e16 : a.tmps.getD 16 undef = vE (mf P n (x ^ (P - 2))) := hD.2.1
    clear hF hD
    go_simp
    refine (fout_c b bm P n size (x ^ (P - 2)) W c1).mono ?_
    rintro e W' ⟨rfl, hb⟩
    exact hK _ _ rfl hb
  · refine Obl.plain rfl _ rfl rfl [] (by kernel_rfl) fun a W hF hC hD K hK => ?_
    obtain ⟨c1, c2⟩ := hC
    have e6 : a.tmps.getD 6 undef = .pointer (some ⟨b4, 0, none⟩) := hF.2.1
    clear hF hD
    exact wpE _ (.tmp 6) rfl c2 e6 Try.underlying98 rfl Try.sz98 (hK _ _ rfl (Below.refl _ _))
  · refine Obl.plain rfl _ rfl rfl [] (by kernel_rfl) fun a W hF hC hD K hK => ?_
    clear hF hD hC
    go_simp
    exact hK _ _ rfl (Below.refl _ _)
  · refine Obl.plain rfl _ rfl rfl [8, 9] (by kernel_rfl) fun a W hF hC hD K hK => ?_
    have e18 : a.tmps.getD 18 undef = vE (mf P n x) := hD.1
    have e19 : a.tmps.getD 19 undef = vE (0) := hD.2.1
    clear hF hD hC
    go_simp
    exact hK _ _ rfl (Below.refl _ _)
  · refine Obl.write rfl rfl _ rfl rfl [7, 7, 0, 1, 2, 3, 4, 5, 6, 7] (by kernel_rfl) fun a W hF hC hC0 hD K hK => ?_
    have e4 : a.tmps.getD 4 undef = .pointer (some ⟨b2, 0, none⟩) := hF.2.2.1
    have e17 : a.tmps.getD 17 undef = vE (x ^ (P - 2) % P) := hD.1
    clear hF hD hC
    exact wpSt 24 (.tmp 4) (.tmp 17) rfl e4 e17 hC0 Try.sz24 fun W' hv ho => hK _ _ hv ho
  rintro w6 hB6 hC6 _ rfl _ rfl _ rfl _ rfl _ rfl _ rfl _ rfl _ rfl _ rfl _ rfl _ rfl _ gw
  change Only _ _ _ at hB6
  change wpList _ _ _ _ _ _
  simp only [List.drop_succ_cons, List.drop_zero, Act.put, List.setIfInBounds_toArray, List.set_cons_zero, List.set_cons_succ]
  have hB6' : Only w5 w6 b2 := hB6
  have hq : (!eqv (mf P n x) 0) = decide (x % P ≠ 0) := by
    rw [eqv_lt (Nat.lt_trans (mf_lt hP0 x) HF.out.lt6) (pw_pos 6)]
    have h0 : mf P n x = 0 ↔ x % P = 0 := by
      have := mf_inj (n := n) HF.out.inv (X := x) (Y := 0)
      rw [mf_zero, Nat.zero_mod] at this; exact this
    by_cases h : x % P = 0
    · rw [decide_eq_true (h0.2 h)]; simp [h]
    · rw [decide_eq_false (fun e => h (h0.1 e))]; simp [h]
  rw [hq]
  clear hC6 hB6 hq
  have hB6' := hide hB6'
  go_wp2_with fail
  exact retTT 24 rfl rfl rfl gw Try.underlying24 rfl Try.sz24 rfl ⟨rfl, Only.below HB.out hB6'.out Hb.out.1⟩
end Go.Proofs.Ytincemkjdgbnnaa

set_option linter.unusedVariables false
set_option linter.unusedSimpArgs false
namespace Go.Proofs.Ytincemkjdgbnnaa
open Go.RowKit Lm

theorem digs_be_short {l : List Nat} (hok : Ok 256 l) (h : l.length ≤ 1073741824) : (digs B64 (be l)).length ≤ 1073741824 := by
  have h1 : be l < 256 ^ l.length := by
    have := val_lt (B := 256) (l := l.reverse) (fun x hx => hok x (List.mem_reverse.1 hx))
    rwa [List.length_reverse] at this
  have h2 : (256 : Nat) ^ l.length ≤ B64 ^ l.length := Nat.pow_le_pow_left (by decide) _
  have := digs_length_le B64_ge (Nat.lt_of_lt_of_le h1 h2)
  omega

set_option maxRecDepth 100000 in
set_option maxHeartbeats 1600000 in
theorem fexp_c (b bm P n size x : Nat) (A : Option Addr) (c : Nat) (l : List Nat) (w : World) (hF : FQ w b bm P n size) (hx : x < B64 ^ 6) (hr : Rd w .u8 A l) (hc : l.length ≤ c) (hlim : l.length ≤ 1073741824) (hok : Ok 256 l) :
    Calls Try.prog 17 #[.pointer (some ⟨b, 0, none⟩), vE x, .slice A l.length c] w fun e w' => e = .returned (vE (x ^ be l % P)) ∧ Below w.heap.size w w' := by
  have Hs := hide (digs_be_short hok hlim)
  have Hfrom := hide (fun W h => from_any A c l W h hc (by unfold lim; omega) hok)
  generalize be l = N at *
  go_enter Try.func17, Try.ntmps17
  have hF := hide hF
  have hx := hide hx
  have hr := hide hr
  go_upto_region 1 with (first
    | ((with_reducible refine boxT 24 (o := ⟨some 4, _, _, _, _, _⟩) ?_ (.tmp 1) ?_ (v := x) ?_ ?_); rfl; rfl; rfl; intro w1 b1 hv1 hn1)
    | ((with_reducible refine allocT 24 (o := ⟨some 6, _, _, _, _, _⟩) ?_ ?_ Try.zr24 ?_); rfl; rfl; intro w3 b3 hv3 hn3))
  have HF := hide ((hF.out.next hn1.bl).next hn3.bl)
  have HB := hide (below_next hn1.bl hn3.bl)
  have HR := hide ((hr.out.below hn1.bl).below hn3.bl)
  have Hv1 := hide (hv1.next hn3.bl)
  have Hv3 := hide hv3
  have Hb := hide (Nat.le_trans hn1.bl.size hn3.lo)
  have hP0 := HF.out.pos
  clear hv1 hv3 hn1 hn3 hF hr
  refine region_do 12 19 [fun v _ => v = .pointer (some ⟨b, 0, none⟩), fun v _ => v = .pointer (some ⟨b, 0, none⟩), fun v _ => v = .pointer (some ⟨b, 0, none⟩), fun v _ => v = .pointer (some ⟨b, 0, none⟩), fun v _ => v = .pointer (some ⟨bm, 0, none⟩), fun v _ => v = .pointer (some ⟨b, 0, none⟩), fun v _ => v = vE (x), fun v _ => v = vE (mf P n x), fun v _ => v = .slice A l.length c, fun v w => RetV w .u64 (digs B64 N) v, fun v _ => v = vE (mf P n (x ^ N)), fun v _ => v = vE (x ^ N % P)]
    [(0, .pointer (some ⟨b, 0, none⟩)), (4, .pointer (some ⟨b1, 0, none⟩)), (2, .slice A l.length c)] (fun w' => FQ w' b bm P n size ∧ VB w' b1 24 (ve x) ∧ Rd w' .u8 A l) (fun w' => True) 999 none (by kernel_rfl) (by kernel_rfl) rfl rfl
    (.cons (Fact.eq _) rfl (.cons (Fact.eq _) rfl (.cons (Fact.eq _) rfl (.cons (Fact.eq _) rfl (.cons (Fact.eq _) rfl (.cons (Fact.eq _) rfl (.cons (Fact.eq _) rfl (.cons (Fact.eq _) rfl (.cons (Fact.eq _) rfl (.cons (fun v w w' h hb => h.next hb) rfl (.cons (Fact.eq _) rfl (.cons (Fact.eq _) rfl (.nil _))))))))))))) (fun w' h => ⟨HF.out.next h, Hv1.out.next h, HR.out.below h⟩) (fun w' h => trivial) (by kernel_rfl) ⟨rfl, rfl, rfl, trivial⟩ (.cons ?_ (.cons ?_ (.cons ?_ (.cons ?_ (.cons ?_ (.cons ?_ (.cons ?_ (.cons ?_ (.cons ?_ (.cons ?_ (.cons ?_ (.cons ?_ .nil)))))))))))) ?_
  · refine Obl.plain rfl _ rfl rfl [] (by kernel_rfl) fun a W hF hC hD K hK => ?_
    have e0 : a.tmps.getD 0 undef = .pointer (some ⟨b, 0, none⟩) := hF.1
    clear hF hD hC
    go_simp
    exact hK _ _ rfl (Below.refl _ _)
  · refine Obl.plain rfl _ rfl rfl [] (by kernel_rfl) fun a W hF hC hD K hK => ?_
    have e0 : a.tmps.getD 0 undef = .pointer (some ⟨b, 0, none⟩) := hF.1
    clear hF hD hC
    go_simp
    exact hK _ _ rfl (Below.refl _ _)
  · refine Obl.plain rfl _ rfl rfl [1] (by kernel_rfl) fun a W hF hC hD K hK => ?_
    have e8 : a.tmps.getD 8 undef = .pointer (some ⟨b, 0, none⟩) := hD.1
    clear hF hD hC
    go_simp
    exact hK _ _ rfl (Below.refl _ _)
  · refine Obl.plain rfl _ rfl rfl [2] (by kernel_rfl) fun a W hF hC hD K hK => ?_
    have e9 : a.tmps.getD 9 undef = .pointer (some ⟨b, 0, none⟩) := hD.1
    clear hF hD hC
    go_simp
    exact hK _ _ rfl (Below.refl _ _)
  · refine Obl.plain rfl _ rfl rfl [3] (by kernel_rfl) fun a W hF hC hD K hK => ?_
    obtain ⟨c1, c2, c3⟩ := hC
    have e10 : a.tmps.getD 10 undef = .pointer (some ⟨b, 0, none⟩) := hD.1
    clear hF hD
    have f0 := c1.cellM
    go_simp
    exact hK _ _ rfl (Below.refl _ _)
  · refine Obl.plain rfl _ rfl rfl [] (by kernel_rfl) fun a W hF hC hD K hK => ?_
    have e0 : a.tmps.getD 0 undef = .pointer (some ⟨b, 0, none⟩) := hF.1
    clear hF hD hC
    go_simp
    exact hK _ _ rfl (Below.refl _ _)
  · refine Obl.plain rfl _ rfl rfl [] (by kernel_rfl) fun a W hF hC hD K hK => ?_
    obtain ⟨c1, c2, c3⟩ := hC
    have e4 : a.tmps.getD 4 undef = .pointer (some ⟨b1, 0, none⟩) := hF.2.1
    clear hF hD
    exact wpE _ (.tmp 4) rfl c2 e4 Try.underlying24 rfl Try.sz24 (hK _ _ rfl (Below.refl _ _))
  · refine Obl.plain rfl _ rfl rfl [5, 6] (by kernel_rfl) fun a W hF hC hD K hK => ?_
    obtain ⟨c1, c2, c3⟩ := hC
    have e12 : a.tmps.getD 12 undef = .pointer (some ⟨b, 0, none⟩) := hD.1
    have e13 : a.tmps.getD 13 undef = vE (x) := hD.2.1
    clear hF hD
    go_simp
    refine (fin_c b bm P n size x W c1 hx.out).mono ?_
    rintro e W' ⟨rfl, hb⟩
    exact hK _ _ rfl hb
  · refine Obl.plain rfl _ rfl rfl [] (by kernel_rfl) fun a W hF hC hD K hK => ?_
    have e2 : a.tmps.getD 2 undef = .slice A l.length c := hF.2.2.1
    clear hF hD hC
    go_simp
    exact hK _ _ rfl (Below.refl _ _)
  · refine Obl.plain rfl _ rfl rfl [8, 7] (by kernel_rfl) fun a W hF hC hD K hK => ?_
    obtain ⟨c1, c2, c3⟩ := hC
    have e15 : a.tmps.getD 15 undef = .slice A l.length c := hD.1
    clear hF hD
    go_simp
    refine (Hfrom.out W c3).mono ?_
    rintro e W' ⟨A2, c2', rfl, hc2, hr2, hb⟩
    exact hK _ _ ⟨A2, c2', rfl, hc2, hr2⟩ hb
  · refine Obl.plain rfl _ rfl rfl [4, 7, 9, 9] (by kernel_rfl) fun a W hF hC hD K hK => ?_
    obtain ⟨c1, c2, c3⟩ := hC
    have e11 : a.tmps.getD 11 undef = .pointer (some ⟨bm, 0, none⟩) := hD.1
    have e14 : a.tmps.getD 14 undef = vE (mf P n x) := hD.2.1
    have e16 : (fun (v : Value) (w : World) => RetV w .u64 (digs B64 N) v) (a.tmps.getD 16 undef) W := hD.2.2.1
    clear hF hD
    obtain ⟨A2, c2', h2, hc2, hr2⟩ := e16
    have h := mexp_c bm P n x A2 c2' (digs B64 N) W c1.fb c1.inv hr2 hc2 Hs.out (digs_ok B64_ge _)
    rw [val_digs B64_ge] at h
    have h := hide h
    go_simp
    refine h.out.mono ?_
    rintro e W' ⟨rfl, hb⟩
    exact hK _ _ rfl hb
  · refine Obl.plain rfl _ rfl rfl [0, 10, 10] (by kernel_rfl) fun a W hF hC hD K hK => ?_
    obtain ⟨c1, c2, c3⟩ := hC
    have e7 : a.tmps.getD 7 undef = .pointer (some ⟨b, 0, none⟩) := hD.1
    have e17 : a.tmps.getD 17 undef = vE (mf P n (x ^ N)) := hD.2.1
    clear hF hD
    go_simp
    refine (fout_c b bm P n size (x ^ N) W c1).mono ?_
    rintro e W' ⟨rfl, hb⟩
    exact hK _ _ rfl hb
  rintro w4 hB4 hC4 _ rfl _ rfl _ rfl _ rfl _ rfl _ rfl _ rfl _ rfl _ rfl v16 g16 _ rfl _ rfl
  change Below _ _ _ at hB4
  change wpList _ _ _ _ _ _
  simp only [List.drop_succ_cons, List.drop_zero, Act.put, List.setIfInBounds_toArray, List.set_cons_zero, List.set_cons_succ]
  have hb4 := hide hB4
  clear hB4 hC4
  go_wp2_with ((with_reducible refine storeT 24 (v' := x ^ N % P) (o := ⟨none, _, _, _, _, _⟩) ?_ (.tmp 6) (.tmp 18) ?_ ?_ ?_ (Hv3.out.next hb4.out) Try.sz24 ?_); rfl; rfl; rfl; rfl; intro w6 hv6 ho6)
  exact retT 24 rfl rfl hv6 Try.underlying24 rfl Try.sz24 rfl ⟨rfl, Only.below (below_next HB.out hb4.out) ho6.out Hb.out⟩
end Go.Proofs.Ytincemkjdgbnnaa

set_option linter.unusedVariables false
set_option linter.unusedSimpArgs false
namespace Go.Proofs.Ytincemkjdgbnnaa
open Go.RowKit Lm Go.Lib

/-- a hex digit's worth. -/
def hexd (c : Nat) : Nat := if 97 ≤ c then c - 87 else c - 48
def isHex (c : Nat) : Prop := (48 ≤ c ∧ c < 58) ∨ (97 ≤ c ∧ c < 103)
theorem hexd_lt {c : Nat} (h : isHex c) : hexd c < 16 := by unfold hexd; rcases h with h | h <;> split <;> omega
/-- the digits of a string, the lowest first. -/
def sdig (s : ByteArray) : List Nat := (s.data.toList.map fun c => hexd c.toNat).reverse

theorem hex_step {N i V d : Nat} (hi : i < 16 * N) (hV : V < 16 ^ i) (hd : d < 16) :
    (fix B64 N V).set (i / 16) (nth (fix B64 N V) (i / 16) ||| d * 2 ^ (i % 16 * 4)) = fix B64 N (V + 16 ^ i * d) ∧ d * 2 ^ (i % 16 * 4) < B64 := by
  have hj : i / 16 < N := by omega
  have hr : i % 16 < 16 := Nat.mod_lt _ (by omega)
  have ha := Nat.div_add_mod i 16
  generalize i / 16 = j at *
  generalize i % 16 = r at *
  have e16 : ∀ k, 16 ^ k = 2 ^ (4 * k) := fun k => by rw [Nat.pow_mul]
  have eB : ∀ k, B64 ^ k = 2 ^ (64 * k) := fun k => by rw [Nat.pow_mul]; rfl
  have hold : nth (fix B64 N V) j = V / B64 ^ j % B64 := nth_fix hj
  have hlt : d * 2 ^ (r * 4) < 2 ^ (r * 4 + 4) := by
    rw [Nat.pow_add, Nat.mul_comm]; exact Nat.mul_lt_mul_of_pos_left (by omega) (Nat.pow_pos (by omega))
  have hle : 2 ^ (r * 4 + 4) ≤ B64 := Nat.pow_le_pow_right (by omega) (show r * 4 + 4 ≤ 64 by omega)
  have hVj : V / B64 ^ j < 2 ^ (r * 4) := by
    rw [Nat.div_lt_iff_lt_mul (pw_pos j), eB, ← Nat.pow_add, show r * 4 + 64 * j = 4 * i by omega, ← e16]
    exact hV
  have hVB : V / B64 ^ j % B64 = V / B64 ^ j := Nat.mod_eq_of_lt (Nat.lt_of_lt_of_le hVj (Nat.pow_le_pow_right (by omega) (show r * 4 ≤ 64 by omega)))
  refine ⟨?_, by omega⟩
  rw [hold, hVB, Nat.or_comm, or_add (Nat.mul_mod_left _ _) hVj]
  have hnew : d * 2 ^ (r * 4) + V / B64 ^ j < B64 := by
    have : d * 2 ^ (r * 4) + 2 ^ (r * 4) ≤ 2 ^ (r * 4 + 4) := by
      rw [← Nat.succ_mul, Nat.pow_add, Nat.mul_comm]; exact Nat.mul_le_mul_left _ (by omega)
    omega
  have hadd : 16 ^ i * d = B64 ^ j * (d * 2 ^ (r * 4)) := by
    rw [e16, eB, show 4 * i = 64 * j + r * 4 by omega, Nat.pow_add, Nat.mul_assoc, Nat.mul_comm d]
  have hVN : V + 16 ^ i * d < B64 ^ N := by
    have h1 : 16 ^ (i + 1) ≤ B64 ^ N := by rw [e16, eB]; exact Nat.pow_le_pow_right (by omega) (by omega)
    have h2 : 16 ^ i * d + 16 ^ i ≤ 16 ^ (i + 1) := by rw [← Nat.mul_succ, Nat.pow_succ]; exact Nat.mul_le_mul_left _ (by omega)
    omega
  refine val_inj (Ok.set (fix_ok B64_pos _ _) hnew) (fix_ok B64_pos _ _) (by rw [List.length_set, fix_length, fix_length]) ?_
  have hs := val_set (B := B64) (fix B64 N V) j (d * 2 ^ (r * 4) + V / B64 ^ j) (by rw [fix_length]; exact hj)
  rw [← nth_of_lt (by rw [fix_length]; exact hj), hold, hVB] at hs
  rw [val_fix_of_lt (show V < B64 ^ N by omega), Nat.mul_add] at hs
  rw [val_fix_of_lt hVN, hadd]
  omega

theorem iterAt_pos {w : World} {k : Nat} {s : ByteArray} {p : Nat} (h : w.heap[k]? = some (.stringIter s p)) : w.iterPos k = p := by simp [World.iterPos, h]
theorem sdig_length (s : ByteArray) : (sdig s).length = s.size := by simp [sdig]
theorem sdig_at {s : ByteArray} {i : Nat} (h : i < s.size) : nth (sdig s) i = hexd (s[s.size - 1 - i]'(by omega)).toNat := by
  rw [nth_of_lt (by rw [sdig_length]; exact h)]
  simp only [sdig, List.getElem_reverse, List.getElem_map, List.length_map]
  rfl
theorem sdig_ok {s : ByteArray} (hx : ∀ (i : Nat) (h : i < s.size), isHex (s[i]'h).toNat) : Ok 16 (sdig s) := fun x h => by
  obtain ⟨i, hi, rfl⟩ := List.getElem_of_mem h
  rw [sdig_length] at hi
  rw [← nth_of_lt (by rw [sdig_length]; exact hi), sdig_at hi]
  exact hexd_lt (hx _ _)

set_option maxRecDepth 100000 in
set_option maxHeartbeats 1600000 in
theorem hex_any (s : ByteArray) (N : Nat) (w : World) (hs : s.size = 16 * N) (hN : N ≤ 1000) (hx : ∀ (i : Nat) (h : i < s.size), isHex (s[i]'h).toNat) :
    Calls Try.prog 107 #[.string s] w (RetBlk w 22 .u64 (fix B64 N (val 16 (sdig s)))) := by
  have hmk := mk_u64 (N : Int) N rfl (by unfold lim; omega)
  have Hs := hide hs
  have Hx := hide hx
  clear hx
  go_enter Try.func107, Try.ntmps107
  go_wp2_with fail
  clear hmk
  have hB0 := below_alloc (below_alloc (Below.refl w.heap.size w) (nblk .u64 22 (List.replicate N 0))) (.stringIter s 0)
  have hblk0 : Blk ((w.alloc (nblk .u64 22 (List.replicate N 0))).alloc (.stringIter s 0)) w.heap.size 22 .u64 (List.replicate N 0) := (Blk.new w .u64 _ _).alloc _
  have hit0 := World.iter_heap (w.alloc (nblk .u64 22 (List.replicate N 0))) s 0
  have hne : w.heap.size < (w.alloc (nblk .u64 22 (List.replicate N 0))).heap.size := by simp
  have HB0 := hide hB0
  have Hblk0 := hide hblk0
  have Hit0 := hide hit0
  have hD := sdig_ok Hx.out
  have HD := hide hD
  have hDl := hide (sdig_length s)
  have hbk : (w.alloc (nblk .u64 22 (List.replicate N 0))).heap.size = w.heap.size + 1 := by simp
  rw [hbk] at Hit0
  clear hB0 hblk0 hit0 hD hne hbk
  go_loopw [4, 5, 6] (fun _ _ _ wr => ∃ i : Nat, i ≤ 16 * N ∧ wr.heap[w.heap.size + 1]? = some (.stringIter s i) ∧ Below w.heap.size w wr ∧ Blk wr w.heap.size 22 .u64 (fix B64 N (val 16 ((sdig s).take i)))) (fun _ _ _ wr => 16 * N - wr.iterPos (w.heap.size + 1))
  case atStart =>
    refine ⟨0, Nat.zero_le _, Hit0.out, HB0.out, ?_⟩
    have : fix B64 N (val 16 ((sdig s).take 0)) = List.replicate N 0 := by
      refine val_inj (fix_ok B64_pos _ _) (Ok.replicate B64_pos _) (by rw [fix_length, List.length_replicate]) ?_
      rw [val_replicate, val_fix]; simp [val]
    rw [this]
    exact Hblk0.out
  case round =>
    obtain ⟨i, hi, hit, hbw, hblk⟩ := hrel
    by_cases hlt : i < 16 * N
    · have hls : i < s.size := by rw [hs]; exact hlt
      have hc := Hx.out i hls
      have hnx : ∀ ty, (Instr.next (.pointer (some ⟨w.heap.size + 1, 0, none⟩)) true ty).run Try.prog wr = _ := fun ty => run_next_ascii_at wr (w.heap.size + 1) s i ty hit hls (by unfold isHex at hc; omega)
      have hlj : s.size - 1 - i < s.size := by omega
      have hcj := Hx.out _ hlj
      have hdg := sdig_at hls
      obtain ⟨c, hcc⟩ : ∃ c, c = (s[s.size - 1 - i]'hlj).toNat := ⟨_, rfl⟩
      obtain ⟨c0, hc0⟩ : ∃ c0, c0 = (s[i]'hls).toNat := ⟨_, rfl⟩
      rw [← hcc] at hcj hdg
      rw [← hc0] at hnx
      have hidx : ∀ W, (Instr.index 9 (.string s) (.int .i64 (16 * (N : Int) - 1 - (i : Int)))).run Try.prog W = .ok (.int .u8 (c : Int)) W := fun W => by
        rw [run_index_string _ _ _ _ _ Try.underlying9]
        have e : (16 * (N : Int) - 1 - (i : Int)).toNat = s.size - 1 - i := by omega
        rw [dif_pos (by omega)]
        simp only [e, ← hcc]
      have hsz : w.heap.size < wr.heap.size := hblk.lt
      have hbw2 := below_iterAt hbw (k := w.heap.size + 1) (by omega) s (i + 1)
      have hit2 := iterAt_heap wr (w.heap.size + 1) s i (i + 1) hit
      have hpos := iterAt_pos hit
      have hpos2 := iterAt_pos hit2
      have hblk2 : Blk (wr.iterAt (w.heap.size + 1) s (i + 1)) w.heap.size 22 .u64 (fix B64 N (val 16 ((sdig s).take i))) := (iterAt_other wr (w.heap.size + 1) w.heap.size s (i + 1) (by omega)).trans hblk
      obtain ⟨w2, hw2⟩ : ∃ w2, w2 = wr.iterAt (w.heap.size + 1) s (i + 1) := ⟨_, rfl⟩
      rw [← hw2] at hnx hbw2 hit2 hpos2 hblk2
      replace hpos := hide hpos
      replace hpos2 := hide hpos2
      replace hit2 := hide hit2
      replace hbw2 := hide hbw2
      replace hdg := hide hdg
      replace hcc := hide hcc
      replace hc0 := hide hc0
      replace hw2 := hide hw2
      clear hit hbw hblk hsz hc
      obtain ⟨st1, st2⟩ := hex_step (V := val 16 ((sdig s).take i)) (d := hexd c) hlt (vt_lt HD.out (by omega) i) (hexd_lt hcj)
      have hVn : val 16 ((sdig s).take i) + 16 ^ i * hexd c = val 16 ((sdig s).take (i + 1)) := by
        rw [vt_succ', hdg.out]
      rw [hVn] at st1
      have hjN : i / 16 < N := by omega
      have hcell := hblk2.cell (i := i / 16) (by rw [fix_length]; exact hjN)
      have hfr := hblk2.frozen (i / 16)
      have hy : nth (fix B64 N (val 16 ((sdig s).take i))) (i / 16) < B64 := Ok.getD B64_pos (fix_ok B64_pos _ _) _
      have Hblk := hide hblk2
      replace st1 := hide st1
      replace st2 := hide st2
      clear hblk2 hVn
      generalize fix B64 N (val 16 ((sdig s).take i)) = L at *
      generalize nth L (i / 16) = y at *
      replace hcj := hide hcj
      have i0 : (0 : Int) ≤ (i : Int) / 16 := by omega
      have i1 : (i : Int) / 16 < (N : Int) := by omega
      have i2 : ((i : Int) / 16).toNat = i / 16 := by omega
      have iw := wrap_in ((i : Int) / 16) (by omega) (by omega)
      have iw2 := wrap_in ((i : Int) % 16) (by omega) (by omega)
      have iw3 := wrap_in ((i : Int) % 16 * 4) (by omega) (by omega)
      have iw4 := wrap_in (16 * (N : Int) - 1) (by omega) (by omega)
      have iw5 := wrap_in (16 * (N : Int) - 1 - (i : Int)) (by omega) (by omega)
      by_cases h97 : 97 ≤ c
      · have h97i : (97 : Int) ≤ (c : Int) := by omega
        have e6 : ((c : Int) - 97) % 256 + 10 = (hexd c : Int) := by
          have := hcj.out; unfold isHex at this; unfold hexd; rw [if_pos h97]; omega
        go_wp2_with fail
        go_region
        go_wp2_with fail
        have hE := or_shl hy st2.out
        have hblk2 := Blk.drew (Hblk.out.set_ (i / 16) hE)
        rw [st1.out] at hblk2
        have hbf := below_drew (hbw2.out.setCell (p := ⟨w.heap.size, i / 16, none⟩) (Nat.le_refl _) (.int .u64 (bits .or .u64 (y : Int) (IntKind.u64.wrap ((hexd c : Int) * 2 ^ (i % 16 * 4))))))
        have hit3 := (Below.heap_setCell w2 ⟨w.heap.size, i / 16, none⟩ (.int .u64 (bits .or .u64 (y : Int) (IntKind.u64.wrap ((hexd c : Int) * 2 ^ (i % 16 * 4))))) (w.heap.size + 1) (by simp)).trans hit2.out
        refine ⟨⟨i + 1, by omega, hit3, hbf, hblk2⟩, ?_⟩
        have hp3 : (w2.setCell ⟨w.heap.size, i / 16, none⟩ (.int .u64 (bits .or .u64 (y : Int) (IntKind.u64.wrap ((hexd c : Int) * 2 ^ (i % 16 * 4)))))).drew.iterPos (w.heap.size + 1) = i + 1 := iterAt_pos hit3
        rw [hp3, hpos.out]
        omega
      · have h97i : ¬ (97 : Int) ≤ (c : Int) := by omega
        have e6 : ((c : Int) - 48) % 256 = (hexd c : Int) := by
          have := hcj.out; unfold isHex at this; unfold hexd; rw [if_neg h97]; omega
        go_wp2_with fail
        go_region
        go_wp2_with fail
        have hE := or_shl hy st2.out
        have hblk2 := Blk.drew (Hblk.out.set_ (i / 16) hE)
        rw [st1.out] at hblk2
        have hbf := below_drew (hbw2.out.setCell (p := ⟨w.heap.size, i / 16, none⟩) (Nat.le_refl _) (.int .u64 (bits .or .u64 (y : Int) (IntKind.u64.wrap ((hexd c : Int) * 2 ^ (i % 16 * 4))))))
        have hit3 := (Below.heap_setCell w2 ⟨w.heap.size, i / 16, none⟩ (.int .u64 (bits .or .u64 (y : Int) (IntKind.u64.wrap ((hexd c : Int) * 2 ^ (i % 16 * 4))))) (w.heap.size + 1) (by simp)).trans hit2.out
        refine ⟨⟨i + 1, by omega, hit3, hbf, hblk2⟩, ?_⟩
        have hp3 : (w2.setCell ⟨w.heap.size, i / 16, none⟩ (.int .u64 (bits .or .u64 (y : Int) (IntKind.u64.wrap ((hexd c : Int) * 2 ^ (i % 16 * 4)))))).drew.iterPos (w.heap.size + 1) = i + 1 := iterAt_pos hit3
        rw [hp3, hpos.out]
        omega
    · obtain rfl : i = 16 * N := by omega
      have hnx : ∀ ty, (Instr.next (.pointer (some ⟨w.heap.size + 1, 0, none⟩)) true ty).run Try.prog wr = _ := fun ty => run_next_end_at wr (w.heap.size + 1) s (16 * N) ty hit (by omega)
      rw [vt_full _ (by rw [hDl.out, hs]; exact Nat.le_refl _)] at hblk
      have hbw := hide hbw
      have hblk := hide hblk
      clear hit
      go_wp2_with fail
      go_ret
      exact retblk_mk hbw.out (by rw [fix_length]) hblk.out (Nat.le_refl _)
end Go.Proofs.Ytincemkjdgbnnaa

set_option linter.unusedVariables false
set_option linter.unusedSimpArgs false
namespace Go.Proofs.Ytincemkjdgbnnaa
open Go.RowKit Lm

/-- the six primes. -/
def kP (k : Int) : Nat :=
  if k = 1 then 115792089237316195423570985008687907853269984665640564039457584007908834671663
  else if k = 2 then 115792089237316195423570985008687907852837564279074904382605163141518161494337
  else if k = 3 then 21888242871839275222246405745257275088696311157297823662689037894645226208583
  else if k = 4 then 21888242871839275222246405745257275088548364400416034343698204186575808495617
  else if k = 5 then 4002409555221667393417789825735904156556882819939007885332058136124031650490837864442687629129015664037894272559787
  else if k = 6 then 52435875175126190479447740508185965837690552500527637822603658699938581184513
  else 0
/-- how many limbs, how many bytes. -/
def kn (k : Int) : Nat := if k = 5 then 6 else 4
def ksz (k : Int) : Nat := if k = 5 then 48 else 32
/-- their digits. -/
def pstr (k : Int) : ByteArray :=
  if k = 1 then ⟨#[102, 102, 102, 102, 102, 102, 102, 102, 102, 102, 102, 102, 102, 102, 102, 102, 102, 102, 102, 102, 102, 102, 102, 102, 102, 102, 102, 102, 102, 102, 102, 102, 102, 102, 102, 102, 102, 102, 102, 102, 102, 102, 102, 102, 102, 102, 102, 102, 102, 102, 102, 102, 102, 102, 102, 101, 102, 102, 102, 102, 102, 99, 50, 102]⟩
  else if k = 2 then ⟨#[102, 102, 102, 102, 102, 102, 102, 102, 102, 102, 102, 102, 102, 102, 102, 102, 102, 102, 102, 102, 102, 102, 102, 102, 102, 102, 102, 102, 102, 102, 102, 101, 98, 97, 97, 101, 100, 99, 101, 54, 97, 102, 52, 56, 97, 48, 51, 98, 98, 102, 100, 50, 53, 101, 56, 99, 100, 48, 51, 54, 52, 49, 52, 49]⟩
  else if k = 3 then ⟨#[51, 48, 54, 52, 52, 101, 55, 50, 101, 49, 51, 49, 97, 48, 50, 57, 98, 56, 53, 48, 52, 53, 98, 54, 56, 49, 56, 49, 53, 56, 53, 100, 57, 55, 56, 49, 54, 97, 57, 49, 54, 56, 55, 49, 99, 97, 56, 100, 51, 99, 50, 48, 56, 99, 49, 54, 100, 56, 55, 99, 102, 100, 52, 55]⟩
  else if k = 4 then ⟨#[51, 48, 54, 52, 52, 101, 55, 50, 101, 49, 51, 49, 97, 48, 50, 57, 98, 56, 53, 48, 52, 53, 98, 54, 56, 49, 56, 49, 53, 56, 53, 100, 50, 56, 51, 51, 101, 56, 52, 56, 55, 57, 98, 57, 55, 48, 57, 49, 52, 51, 101, 49, 102, 53, 57, 51, 102, 48, 48, 48, 48, 48, 48, 49]⟩
  else if k = 5 then ⟨#[49, 97, 48, 49, 49, 49, 101, 97, 51, 57, 55, 102, 101, 54, 57, 97, 52, 98, 49, 98, 97, 55, 98, 54, 52, 51, 52, 98, 97, 99, 100, 55, 54, 52, 55, 55, 52, 98, 56, 52, 102, 51, 56, 53, 49, 50, 98, 102, 54, 55, 51, 48, 100, 50, 97, 48, 102, 54, 98, 48, 102, 54, 50, 52, 49, 101, 97, 98, 102, 102, 102, 101, 98, 49, 53, 51, 102, 102, 102, 102, 98, 57, 102, 101, 102, 102, 102, 102, 102, 102, 102, 102, 97, 97, 97, 98]⟩
  else if k = 6 then ⟨#[55, 51, 101, 100, 97, 55, 53, 51, 50, 57, 57, 100, 55, 100, 52, 56, 51, 51, 51, 57, 100, 56, 48, 56, 48, 57, 97, 49, 100, 56, 48, 53, 53, 51, 98, 100, 97, 52, 48, 50, 102, 102, 102, 101, 53, 98, 102, 101, 102, 102, 102, 102, 102, 102, 102, 102, 48, 48, 48, 48, 48, 48, 48, 49]⟩
  else ⟨#[]⟩
def isKind (k : Int) : Prop := k = 1 ∨ k = 2 ∨ k = 3 ∨ k = 4 ∨ k = 5 ∨ k = 6

theorem prime_any (k : Int) (w : World) : Calls Try.prog 105 #[.int .i64 k] w fun e w' => e = .returned (.string (pstr k)) ∧ w' = w := by
  go_enter Try.func105, Try.ntmps105
  by_cases h1 : k = 1
  · subst h1; go_wp2_with fail; go_ret; exact ⟨rfl, rfl⟩
  by_cases h2 : k = 2
  · subst h2; go_wp2_with fail; go_ret; exact ⟨rfl, rfl⟩
  by_cases h3 : k = 3
  · subst h3; go_wp2_with fail; go_ret; exact ⟨rfl, rfl⟩
  by_cases h4 : k = 4
  · subst h4; go_wp2_with fail; go_ret; exact ⟨rfl, rfl⟩
  by_cases h5 : k = 5
  · subst h5; go_wp2_with fail; go_ret; exact ⟨rfl, rfl⟩
  by_cases h6 : k = 6
  · subst h6; go_wp2_with fail; go_ret; exact ⟨rfl, rfl⟩
  have hp : pstr k = ⟨#[]⟩ := by unfold pstr; rw [if_neg h1, if_neg h2, if_neg h3, if_neg h4, if_neg h5, if_neg h6]
  have hp := hide hp
  go_wp2_with fail
  go_ret
  exact ⟨by rw [hp.out]; rfl, rfl⟩

/-- what the six have in common. -/
structure KOk (k : Int) : Prop where
  sz : (pstr k).size = 16 * kn k
  hx : ∀ (i : Nat) (h : i < (pstr k).size), isHex ((pstr k)[i]'h).toNat
  vl : val 16 (sdig (pstr k)) = kP k
  lt : kP k < B64 ^ kn k
  gt : B64 ^ (kn k - 1) ≤ kP k
  inv : InvOk (kP k)
  n1 : 0 < kn k
  n6 : kn k ≤ 6
  sz2 : ksz k = 8 * kn k
theorem hexAll {s : ByteArray} (h : s.data.toList.all (fun c => (48 ≤ c.toNat && c.toNat < 58) || (97 ≤ c.toNat && c.toNat < 103)) = true) : ∀ (i : Nat) (h : i < s.size), isHex (s[i]'h).toNat := fun i hi => by
  have := (List.all_eq_true.1 h) (s[i]'hi) (by
    have : s[i]'hi = s.data.toList[i]'(by simpa using hi) := rfl
    rw [this]; exact List.getElem_mem _)
  simp only [Bool.or_eq_true, Bool.and_eq_true, decide_eq_true_eq] at this
  exact this
theorem kok1 : KOk 1 := ⟨by decide +kernel, hexAll (by decide +kernel), by decide +kernel, by decide +kernel, by decide +kernel, by unfold InvOk; decide +kernel, by decide, by decide, by decide⟩
theorem kok2 : KOk 2 := ⟨by decide +kernel, hexAll (by decide +kernel), by decide +kernel, by decide +kernel, by decide +kernel, by unfold InvOk; decide +kernel, by decide, by decide, by decide⟩
theorem kok3 : KOk 3 := ⟨by decide +kernel, hexAll (by decide +kernel), by decide +kernel, by decide +kernel, by decide +kernel, by unfold InvOk; decide +kernel, by decide, by decide, by decide⟩
theorem kok4 : KOk 4 := ⟨by decide +kernel, hexAll (by decide +kernel), by decide +kernel, by decide +kernel, by decide +kernel, by unfold InvOk; decide +kernel, by decide, by decide, by decide⟩
theorem kok5 : KOk 5 := ⟨by decide +kernel, hexAll (by decide +kernel), by decide +kernel, by decide +kernel, by decide +kernel, by unfold InvOk; decide +kernel, by decide, by decide, by decide⟩
theorem kok6 : KOk 6 := ⟨by decide +kernel, hexAll (by decide +kernel), by decide +kernel, by decide +kernel, by decide +kernel, by unfold InvOk; decide +kernel, by decide, by decide, by decide⟩
theorem kok {k : Int} (h : isKind k) : KOk k := by
  rcases h with rfl | rfl | rfl | rfl | rfl | rfl
  · exact kok1
  · exact kok2
  · exact kok3
  · exact kok4
  · exact kok5
  · exact kok6
end Go.Proofs.Ytincemkjdgbnnaa

set_option linter.unusedVariables false
set_option linter.unusedSimpArgs false
namespace Go.Proofs.Ytincemkjdgbnnaa
open Go.RowKit Lm

/-- a call hands back one of the six fields. -/
def RetK (w : World) (k : Int) (e : Ending) (w' : World) : Prop :=
  ∃ b bm, e = .returned (.tuple #[.pointer (some ⟨b, 0, none⟩), .int .i64 0]) ∧ FQ w' b bm (kP k) (kn k) (ksz k) ∧ w.heap.size ≤ b ∧ w.heap.size ≤ bm ∧ Below w.heap.size w w'

set_option maxRecDepth 100000 in
theorem fnew_c (k : Int) (w : World) (hk : isKind k) : Calls Try.prog 59 #[.int .i64 k] w (RetK w k) := by
  have hK := kok hk
  have hne : pstr k ≠ ⟨#[]⟩ := fun e => by
    have h1 := hK.sz
    rw [e] at h1
    have h2 := hK.n1
    have : (ByteArray.mk #[]).size = 0 := rfl
    omega
  have hpr := hide (prime_any k w)
  have hhex := hide (fun W => hex_any (pstr k) (kn k) W hK.sz (by have := hK.n6; omega) hK.hx)
  rw [hK.vl] at hhex
  have hlen : (digs B64 (kP k)).length = kn k := by
    have h1 := digs_length_le B64_ge hK.lt
    have h2 := digs_lt B64_ge (kP k)
    rcases Nat.lt_or_ge (digs B64 (kP k)).length (kn k) with h | h
    · have h3 := Nat.pow_le_pow_right (n := B64) B64_pos (show (digs B64 (kP k)).length ≤ kn k - 1 by omega)
      have := hK.gt
      omega
    · omega
  have hnew := hide (fun A c W hr hc => new_any A c (fix B64 (kn k) (kP k)) (kP k) (kn k) W hr hc (by rw [fix_length]; have := hK.n6; unfold lim; omega) (fix_ok B64_pos _ _) (val_fix_of_lt hK.lt) hlen hK.n1 hK.n6)
  have hsz := hK.sz
  have hgt : 1 < kP k := by
    have := hK.gt
    have h1 := hK.n1
    rcases Nat.eq_or_lt_of_le (show 1 ≤ kn k by omega) with h | h
    · exact absurd (show False by rcases hk with rfl | rfl | rfl | rfl | rfl | rfl <;> exact absurd h (by decide)) id
    · have h2 : B64 ^ 1 ≤ B64 ^ (kn k - 1) := Nat.pow_le_pow_right B64_pos (by omega)
      have : B64 ^ 1 = B64 := Nat.pow_one _
      have h3 : 1 < B64 := by decide
      omega
  have HK := hide (show kP k < B64 ^ kn k ∧ InvOk (kP k) ∧ 0 < kn k ∧ kn k ≤ 6 ∧ ksz k = 8 * kn k ∧ 1 < kP k from ⟨hK.lt, hK.inv, hK.n1, hK.n6, hK.sz2, hgt⟩)
  have n6 := hK.n6
  clear hlen hK hgt
  generalize pstr k = s at *
  generalize hP : kP k = P at *
  generalize hnn : kn k = n at *
  generalize hzz : ksz k = sz at *
  have hP := hide hP
  have hnn := hide hnn
  have hzz := hide hzz
  have hem : s.toList.isEmpty = false := by
    rw [Go.ByteArray.toList_eq]
    have h1 : s.data.toList.length = 16 * n := hsz
    cases hq : s.data.toList with
    | nil => rw [hq] at h1; have := HK.out.2.2.1; simp at h1; omega
    | cons a r => rfl
  have hne := hide hne
  have iq := wrap_in ((sz : Int)) (by have := HK.out.2.2.2.2.1; omega) (by have := HK.out.2.2.2.2.1; omega)
  have iq2 : 16 * (n : Int) / 2 = (sz : Int) := by have := HK.out.2.2.2.2.1; omega
  go_enter Try.func59, Try.ntmps59
  go_wp2_with (first
    | (go_at_call 105; refine hpr.out.mono ?_; rintro e w1 ⟨rfl, rfl⟩)
    | (go_at_call 107; refine (hhex.out w1).mono ?_; rintro e w2 ⟨b2, rfl, hb2, hg2, hB2⟩; replace hb2 := hide hb2; replace hB2 := hide hB2; rw [fix_length])
    | (go_at_call 106; have hn := hnew.out (some ⟨b2, 0, none⟩) n w2 (fun _ => ⟨_, _, rfl, hb2.out.row0⟩) (by rw [fix_length]; exact Nat.le_refl _); rw [fix_length] at hn; refine hn.mono ?_; clear hn; rintro e w3 ⟨bm, rfl, hv3, hg3, hB3⟩; replace hv3 := hide hv3; replace hB3 := hide hB3)
    | ((with_reducible refine wpList_box (o := ⟨some 16, _, _, _, _, _⟩) ?_ 101 (.tmp 15) ?_ [.pointer (some ⟨bm, 0, none⟩), .int .i64 (sz : Int)] ?_ ?_); rfl; rfl; rfl; intro w4 b4 h1 hv4 h3 h4; have hn4 : New w3 w4 b4 := ⟨by rw [h1]; exact Nat.le_refl _, by rw [h4]; omega, h3⟩; clear h1 h3 h4))
  go_ret2
  have hB23 := below_next hB2.out hB3.out
  have hb34 := hn4.bl
  refine ⟨b4, bm, rfl, ⟨?_, ⟨?_, ?_, ?_, ?_, ?_⟩, ?_⟩, Nat.le_trans hB23.size hn4.lo, Nat.le_trans hB2.out.size hg3, below_next hB23 hb34⟩
  · rw [hzz.out]; exact hv4
  · rw [hP.out, hnn.out]; exact hv3.out.next hb34
  · rw [hnn.out]; exact HK.out.2.2.1
  · rw [hnn.out]; exact HK.out.2.2.2.1
  · rw [hP.out, hnn.out]; exact HK.out.1
  · rw [hP.out]; exact HK.out.2.2.2.2.2
  · rw [hP.out]; exact HK.out.2.1

/-- there are no others. -/
theorem fnew_none (k : Int) (w : World) (hk : ¬ isKind k) : Calls Try.prog 59 #[.int .i64 k] w fun e w' => e = .returned (.tuple #[.pointer none, .int .i64 1]) ∧ w' = w := by
  have hp : pstr k = ⟨#[]⟩ := by
    unfold isKind at hk
    unfold pstr; rw [if_neg (by omega), if_neg (by omega), if_neg (by omega), if_neg (by omega), if_neg (by omega), if_neg (by omega)]
  have hpr := hide (prime_any k w)
  rw [hp] at hpr
  have hem : (ByteArray.mk #[]).toList.isEmpty = true := by rw [Go.ByteArray.toList_eq]; rfl
  go_enter Try.func59, Try.ntmps59
  go_wp2_with (go_at_call 105; refine hpr.out.mono ?_; rintro e w1 ⟨rfl, rfl⟩)
  go_ret2
  exact ⟨rfl, rfl⟩
end Go.Proofs.Ytincemkjdgbnnaa
