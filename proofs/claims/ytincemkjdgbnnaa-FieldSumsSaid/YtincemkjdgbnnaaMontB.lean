/- Walks: package mont: Prime, One, Add, Sub, Neg. -/
import Derived.Test.YtincemkjdgbnnaaMontA
set_option linter.unusedVariables false
set_option linter.unusedSimpArgs false
namespace Go.Proofs.Ytincemkjdgbnnaa
open Go.RowKit Lm

/-- w' is w and new blocks, b one of them. -/
structure New (w w' : World) (b : Nat) : Prop where
  lo : w.heap.size ≤ b
  hi : b < w'.heap.size
  bl : Below w.heap.size w w'
theorem New.sz {w w' : World} {b : Nat} (h : New w w' b) : w.heap.size ≤ w'.heap.size := h.bl.size

section
variable {ops : Array Oper} {rest : List Oper} {o : Oper} {a : Act} {w : World} {Q : Exit → Act → World → Prop}
theorem boxN (hgd : o.guard = none) (x : Operand) (ho : o.op = .box 98 x) {v : Nat} (hx : a.eval x = vE v)
    (h : ∀ w' b, VB w' b 98 (ve v) → New w w' b → wpList Try.prog ops Q rest (a.put o.dst (.pointer (some ⟨b, 0, none⟩))) w') : wpList Try.prog ops Q (o :: rest) a w :=
  boxE hgd x ho hx fun w' b h1 h2 h3 h4 => h w' b h2 ⟨by rw [h1.out]; exact Nat.le_refl _, by rw [h4.out]; omega, h3.out⟩
theorem allocN (hgd : o.guard = none) (ho : o.op = .alloc 98)
    (h : ∀ w' b, VB w' b 98 (ve 0) → New w w' b → wpList Try.prog ops Q rest (a.put o.dst (.pointer (some ⟨b, 0, none⟩))) w') : wpList Try.prog ops Q (o :: rest) a w :=
  allocE hgd ho fun w' b h1 h2 h3 h4 => h w' b h2 ⟨by rw [h1.out]; exact Nat.le_refl _, by rw [h4.out]; omega, h3.out⟩
end

theorem fcells_length (P n : Nat) : (fcells P n).length = 20 := by simp [fcells, nums_length, fix_length]
section
variable {ops : Array Oper} {rest : List Oper} {o : Oper} {a : Act} {w : World} {Q : Exit → Act → World → Prop}
/-- a part of a field's block is read: an element. -/
theorem loadF (hgd : o.guard = none) (x : Operand) (ho : o.op = .load 98 x) {b P n : Nat} (hF : FB w b P n) (off : Nat) (hx : a.eval x = .pointer (some ⟨b, off, none⟩)) {v : Nat} (hv : ((fcells P n).drop off).take 6 = ve v) (h20 : off + 6 ≤ 20)
    (h : wpList Try.prog ops Q rest (a.put o.dst (vE v)) w) : wpList Try.prog ops Q (o :: rest) a w :=
  wpList_loadA hgd _ x ho hx hF.vb Try.underlying98 rfl Try.sizeElem (by rw [fcells_length]; exact h20) (by rw [hv]; exact h)
end
theorem part_p (P n : Nat) : ((fcells P n).drop 0).take 6 = ve P := rfl
theorem part_one (P n : Nat) : ((fcells P n).drop 8).take 6 = ve (B64 ^ n % P) := rfl
theorem part_sq (P n : Nat) : ((fcells P n).drop 14).take 6 = ve (B64 ^ (2 * n) % P) := rfl

set_option maxRecDepth 100000 in
theorem mprime_any (bm P n : Nat) (w : World) (hF : FB w bm P n) :
    Calls Try.prog 67 #[.pointer (some ⟨bm, 0, none⟩)] w fun e w' => e = .returned (vE P) ∧ Below w.heap.size w w' := by
  go_enter Try.func67, Try.ntmps67
  have hF := hide hF
  go_wp2_with (first
    | ((with_reducible refine allocN (o := ⟨some 2, _, _, _, _, _⟩) ?_ ?_ ?_); rfl; rfl; intro w1 b1 hv1 hn1)
    | ((with_reducible refine loadF (o := ⟨some 6, _, _, _, _, _⟩) ?_ (.tmp 5) ?_ (hF.out.next hn1.bl) 0 ?_ (part_p P n) ?_ ?_); rfl; rfl; rfl; exact (by decide : 0 + 6 ≤ 20))
    | ((with_reducible refine storeE (v' := P) (o := ⟨none, _, _, _, _, _⟩) ?_ (.tmp 2) (.tmp 6) ?_ ?_ ?_ hv1 ?_); rfl; rfl; rfl; rfl; intro w2 hv2 ho2))
  exact retE rfl rfl hv2 rfl ⟨rfl, Only.below hn1.bl ho2.out hn1.lo⟩

set_option maxRecDepth 100000 in
theorem mone_any (bm P n : Nat) (w : World) (hF : FB w bm P n) :
    Calls Try.prog 144 #[.pointer (some ⟨bm, 0, none⟩)] w fun e w' => e = .returned (vE (B64 ^ n % P)) ∧ Below w.heap.size w w' := by
  go_enter Try.func144, Try.ntmps144
  have hF := hide hF
  go_wp2_with (first
    | ((with_reducible refine allocN (o := ⟨some 2, _, _, _, _, _⟩) ?_ ?_ ?_); rfl; rfl; intro w1 b1 hv1 hn1)
    | ((with_reducible refine loadF (o := ⟨some 6, _, _, _, _, _⟩) ?_ (.tmp 5) ?_ (hF.out.next hn1.bl) 8 ?_ (part_one P n) ?_ ?_); rfl; rfl; rfl; exact (by decide : 8 + 6 ≤ 20))
    | ((with_reducible refine storeE (v' := B64 ^ n % P) (o := ⟨none, _, _, _, _, _⟩) ?_ (.tmp 2) (.tmp 6) ?_ ?_ ?_ hv1 ?_); rfl; rfl; rfl; rfl; intro w2 hv2 ho2))
  exact retE rfl rfl hv2 rfl ⟨rfl, Only.below hn1.bl ho2.out hn1.lo⟩

set_option maxRecDepth 100000 in
set_option maxHeartbeats 1600000 in
theorem madd_any (bm P n x y : Nat) (w : World) (hF : FB w bm P n) (hx : x < P) (hy : y < P) :
    Calls Try.prog 75 #[.pointer (some ⟨bm, 0, none⟩), vE x, vE y] w fun e w' => e = .returned (vE ((x + y) % P)) ∧ Below w.heap.size w w' := by
  go_enter Try.func75, Try.ntmps75
  go_upto_region 1 with (first
    | ((with_reducible refine boxN (o := ⟨some 4, _, _, _, _, _⟩) ?_ (.tmp 1) ?_ (v := x) ?_ ?_); rfl; rfl; rfl; intro w1 b1 hv1 hn1)
    | ((with_reducible refine boxN (o := ⟨some 5, _, _, _, _, _⟩) ?_ (.tmp 2) ?_ (v := y) ?_ ?_); rfl; rfl; rfl; intro w2 b2 hv2 hn2)
    | ((with_reducible refine allocN (o := ⟨some 6, _, _, _, _, _⟩) ?_ ?_ ?_); rfl; rfl; intro w3 b3 hv3 hn3))
  have HB := hide (below_next (below_next hn1.bl hn2.bl) hn3.bl)
  have Hb := hide (show w.heap.size ≤ b1 ∧ b1 < b2 ∧ b2 < b3 ∧ b3 < w3.heap.size ∧ bm < b1 from
    ⟨hn1.lo, Nat.lt_of_lt_of_le hn1.hi hn2.lo, Nat.lt_of_lt_of_le hn2.hi hn3.lo, hn3.hi, Nat.lt_of_lt_of_le hF.vb.lt hn1.lo⟩)
  have Hv1 := hide ((hv1.next hn2.bl).next hn3.bl)
  have Hv2 := hide (hv2.next hn3.bl)
  have Hv3 := hide hv3
  have HF := hide (hF.next HB.out)
  have c1 := HF.out.cellN
  have n1 := hF.n1
  have n6 := hF.n6
  have Hx := hide (show x < P ∧ y < P ∧ x < B64 ^ n ∧ y < B64 ^ n from ⟨hx, hy, Nat.lt_trans hx hF.lt, Nat.lt_trans hy hF.lt⟩)
  clear hv1 hv2 hv3 hn1 hn2 hn3 hF hx hy
  go_wp2_with fail
  go_loopw [7, 13] (fun s k wr => ∃ i : Nat, i ≤ n ∧ k = .int .i64 i ∧ s = .int .u64 (cyx x y i : Int) ∧ Only w3 wr b1 ∧ Blk wr b1 98 .u64 (ch B64 i (adx x y i) (fix B64 6 x))) (fun _ k _ => n - (intOf k).toNat)
  case atStart =>
    exact ⟨0, Nat.zero_le _, rfl, by rw [cyx_zero]; rfl, Only.refl _ _, by rw [ch_zero]; exact Hv1.out⟩
  case round =>
    obtain ⟨i, hi, rfl, rfl, hon, hblk⟩ := hrel
    by_cases hlt : i < n
    · have r1 := fix_cell (w := wr) (hon.vb Hv2.out (by have := Hb.out; omega)) (show i < 6 by omega)
      have r3 := ch_cell hblk (show i < 6 by omega)
      have r4 := hblk.frozen i
      have r5 := cyx_le x y i
      have HN := hide (cyx_next x y i)
      have HB := hide (adx_next hblk (by rw [fix_length]; omega))
      have HO := hide hon
      clear hblk hon
      go_wp2_with fail
      go_region
      go_wp2_with fail
      exact ⟨⟨i + 1, by omega, by simp, by rw [HN.out], HO.out.drew.set_ _ _, HB.out⟩, by simp [intOf]; omega⟩
    · obtain rfl : i = n := by omega
      obtain ⟨h1, h2, h3, h4⟩ := Hx.out
      obtain ⟨e1, e2⟩ := adx_end n6 h3 h4
      rw [e1] at hblk
      rw [e2]
      have hlow := lowered_any bm P i ((x + y) % B64 ^ i) ((x + y) / B64 ^ i) wr (HF.out.only hon (by have := Hb.out; omega)) (Nat.mod_lt _ (pw_pos i)) (by rw [← e2]; exact cyx_le x y i)
        (by rw [Nat.mul_comm, Nat.mod_add_div]; omega)
      rw [Nat.mul_comm ((x + y) / B64 ^ i), Nat.mod_add_div] at hlow
      have hlow := hide hlow
      have hV1 := hide (show VB wr b1 98 (ve ((x + y) % B64 ^ i)) from hblk)
      have hV3 := hide (hon.vb Hv3.out (by have := Hb.out; omega))
      have hBW := hide (Only.below HB.out hon Hb.out.1)
      clear hblk hon e1 e2 h1 h2 h3 h4
      generalize (x + y) % B64 ^ i = lo at *
      generalize (x + y) / B64 ^ i = hi2 at *
      go_wp2_with (first
          | ((with_reducible refine loadE (o := ⟨some 31, _, _, _, _, _⟩) ?_ (.tmp 4) ?_ ?_ hV1.out ?_); rfl; rfl; rfl)
          | (go_at_call 120; refine hlow.out.mono ?_; rintro e w5 ⟨rfl, hb5⟩; replace hb5 := hide hb5)
          | ((with_reducible refine storeE (v' := (x + y) % P) (o := ⟨none, _, _, _, _, _⟩) ?_ (.tmp 6) (.tmp 33) ?_ ?_ ?_ (hV3.out.next hb5.out) ?_); rfl; rfl; rfl; rfl; intro w6 hv6 ho6))
      refine retE rfl rfl hv6 rfl ⟨rfl, Only.below (below_next hBW.out hb5.out) ho6.out (by have := Hb.out; omega)⟩

theorem msub_val {x y P M : Nat} (hx : x < P) (hy : y < P) (hP : P < M) :
    (bo x y = 1 → (sb M x y + P) % M = (x + P - y) % P) ∧ (bo x y = 0 → sb M x y = (x + P - y) % P) := by
  unfold sb bo
  by_cases h : x < y
  · rw [if_pos h, Nat.one_mul]
    refine ⟨fun _ => ?_, fun h => by omega⟩
    rw [show x + M - y + P = (x + P - y) + M by omega, Nat.add_mod_right, Nat.mod_eq_of_lt (by omega), Nat.mod_eq_of_lt (by omega)]
  · rw [if_neg h, Nat.zero_mul]
    refine ⟨fun h => by omega, fun _ => ?_⟩
    rw [show x + P - y = (x + 0 - y) + P by omega, Nat.add_mod_right, Nat.mod_eq_of_lt (by omega)]

set_option maxRecDepth 100000 in
set_option maxHeartbeats 1600000 in
theorem msub_any (bm P n x y : Nat) (w : World) (hF : FB w bm P n) (hx : x < P) (hy : y < P) :
    Calls Try.prog 77 #[.pointer (some ⟨bm, 0, none⟩), vE x, vE y] w fun e w' => e = .returned (vE ((x + P - y) % P)) ∧ Below w.heap.size w w' := by
  go_enter Try.func77, Try.ntmps77
  go_upto_region 1 with (first
    | ((with_reducible refine boxN (o := ⟨some 4, _, _, _, _, _⟩) ?_ (.tmp 1) ?_ (v := x) ?_ ?_); rfl; rfl; rfl; intro w1 b1 hv1 hn1)
    | ((with_reducible refine boxN (o := ⟨some 5, _, _, _, _, _⟩) ?_ (.tmp 2) ?_ (v := y) ?_ ?_); rfl; rfl; rfl; intro w2 b2 hv2 hn2)
    | ((with_reducible refine allocN (o := ⟨some 6, _, _, _, _, _⟩) ?_ ?_ ?_); rfl; rfl; intro w3 b3 hv3 hn3))
  have HB := hide (below_next (below_next hn1.bl hn2.bl) hn3.bl)
  have Hb := hide (show w.heap.size ≤ b1 ∧ b1 < b2 ∧ b2 < b3 ∧ b3 < w3.heap.size ∧ bm < b1 from
    ⟨hn1.lo, Nat.lt_of_lt_of_le hn1.hi hn2.lo, Nat.lt_of_lt_of_le hn2.hi hn3.lo, hn3.hi, Nat.lt_of_lt_of_le hF.vb.lt hn1.lo⟩)
  have Hv1 := hide ((hv1.next hn2.bl).next hn3.bl)
  have Hv2 := hide (hv2.next hn3.bl)
  have Hv3 := hide hv3
  have HF := hide (hF.next HB.out)
  have c1 := HF.out.cellN
  have n1 := hF.n1
  have n6 := hF.n6
  have Hx := hide (show x < P ∧ y < P ∧ x < B64 ^ n ∧ y < B64 ^ n from ⟨hx, hy, Nat.lt_trans hx hF.lt, Nat.lt_trans hy hF.lt⟩)
  clear hv1 hv2 hv3 hn1 hn2 hn3 hF hx hy
  go_wp2_with fail
  go_loopw [7, 15] (fun s k wr => ∃ i : Nat, i ≤ n ∧ k = .int .i64 i ∧ s = .int .u64 (box x y i : Int) ∧ Only w3 wr b1 ∧ Blk wr b1 98 .u64 (ch B64 i (sbx x y i) (fix B64 6 x))) (fun _ k _ => n - (intOf k).toNat)
  case atStart =>
    exact ⟨0, Nat.zero_le _, rfl, by rw [box_zero]; rfl, Only.refl _ _, by rw [ch_zero]; exact Hv1.out⟩
  case round =>
    obtain ⟨i, hi, rfl, rfl, hon, hblk⟩ := hrel
    by_cases hlt : i < n
    · have r1 := fix_cell (w := wr) (hon.vb Hv2.out (by have := Hb.out; omega)) (show i < 6 by omega)
      have r3 := ch_cell hblk (show i < 6 by omega)
      have r4 := hblk.frozen i
      have r5 := box_le x y i
      have HN := hide (box_next x y i)
      have HB := hide (sbx_next hblk (by rw [fix_length]; omega))
      have HO := hide hon
      clear hblk hon
      go_wp2_with fail
      go_region
      go_wp2_with fail
      exact ⟨⟨i + 1, by omega, by simp, by rw [HN.out], HO.out.drew.set_ _ _, HB.out⟩, by simp [intOf]; omega⟩
    · obtain rfl : i = n := by omega
      obtain ⟨h1, h2, h3, h4⟩ := Hx.out
      obtain ⟨e1, e2⟩ := sbx_end n6 h3 h4
      rw [e1] at hblk
      rw [e2]
      obtain ⟨m1, m2⟩ := msub_val h1 h2 HF.out.lt
      have m1 := hide m1
      have m2 := hide m2
      have hbo := bo_le x y
      have hsb := hide (sb_lt (P := B64 ^ i) h3 h4)
      have hF := HF.out.only hon (by have := Hb.out; omega)
      have hV1 := hide (show VB wr b1 98 (ve (sb (B64 ^ i) x y)) from hblk)
      have hV3 := hide (hon.vb Hv3.out (by have := Hb.out; omega))
      have hBW := hide (Only.below HB.out hon Hb.out.1)
      have c1 := hF.cellN
      have HF := hide hF
      clear hblk hon e1 e2 h1 h2 h3 h4 hF
      generalize bo x y = o at *
      generalize sb (B64 ^ i) x y = s0 at *
      have ho : o = 0 ∨ o = 1 := by omega
      rcases ho with rfl | rfl
      · go_wp2_with (first
          | ((with_reducible refine loadE (o := ⟨some 58, _, _, _, _, _⟩) ?_ (.tmp 4) ?_ ?_ hV1.out ?_); rfl; rfl; rfl)
          | ((with_reducible refine storeE (v' := s0) (o := ⟨none, _, _, _, _, _⟩) ?_ (.tmp 6) (.tmp 58) ?_ ?_ ?_ hV3.out ?_); rfl; rfl; rfl; rfl; intro w6 hv6 ho6))
        exact retE rfl rfl hv6 rfl ⟨congrArg (fun z => Ending.returned (vE z)) (m2.out (by trivial)), Only.below hBW.out ho6.out (by have := Hb.out; omega)⟩
      · go_wp2_with fail
        go_loopw [9, 38] (fun s k wq => ∃ j : Nat, j ≤ i ∧ k = .int .i64 j ∧ s = .int .u64 (cyx s0 P j : Int) ∧ Only wr wq b1 ∧ Blk wq b1 98 .u64 (ch B64 j (adx s0 P j) (fix B64 6 s0))) (fun _ k _ => i - (intOf k).toNat)
        case atStart =>
          exact ⟨0, Nat.zero_le _, rfl, by rw [cyx_zero]; rfl, Only.refl _ _, by rw [ch_zero]; exact hV1.out⟩
        case round =>
          obtain ⟨j, hj, rfl, rfl, hon, hblk⟩ := hrel
          by_cases hlt : j < i
          · have r1 := (HF.out.only hon (by have := Hb.out; omega)).cellP (show j < 6 by omega)
            have r3 := ch_cell hblk (show j < 6 by omega)
            have r4 := hblk.frozen j
            have r5 := cyx_le s0 P j
            have HN := hide (cyx_next s0 P j)
            have HB := hide (adx_next hblk (by rw [fix_length]; omega))
            have HO := hide hon
            clear hblk hon
            go_wp2_with fail
            go_region
            go_wp2_with fail
            exact ⟨⟨j + 1, by omega, by simp, by rw [HN.out], HO.out.drew.set_ _ _, HB.out⟩, by simp [intOf]; omega⟩
          · obtain rfl : j = i := by omega
            obtain ⟨e1, e2⟩ := adx_end n6 hsb.out HF.out.lt
            rw [e1] at hblk
            have hVq := hide (show VB wr b1 98 (ve ((s0 + P) % B64 ^ j)) from hblk)
            have hV3 := hide (hon.vb hV3.out (by have := Hb.out; omega))
            have hBW := hide (Only.below hBW.out hon Hb.out.1)
            clear hblk hon
            go_wp2_with (first
              | ((with_reducible refine loadE (o := ⟨some 58, _, _, _, _, _⟩) ?_ (.tmp 4) ?_ ?_ hVq.out ?_); rfl; rfl; rfl)
              | ((with_reducible refine storeE (v' := (s0 + P) % B64 ^ j) (o := ⟨none, _, _, _, _, _⟩) ?_ (.tmp 6) (.tmp 58) ?_ ?_ ?_ hV3.out ?_); rfl; rfl; rfl; rfl; intro w6 hv6 ho6))
            exact retE rfl rfl hv6 rfl ⟨congrArg (fun z => Ending.returned (vE z)) (m1.out (by trivial)), Only.below hBW.out ho6.out (by have := Hb.out; omega)⟩

set_option maxRecDepth 100000 in
theorem mneg_any (bm P n y : Nat) (w : World) (hF : FB w bm P n) (hy : y < P) :
    Calls Try.prog 135 #[.pointer (some ⟨bm, 0, none⟩), vE y] w fun e w' => e = .returned (vE ((P - y) % P)) ∧ Below w.heap.size w w' := by
  go_enter Try.func135, Try.ntmps135
  have hF := hide hF
  go_wp2_with (first
    | ((with_reducible refine boxN (o := ⟨some 3, _, _, _, _, _⟩) ?_ (.tmp 1) ?_ (v := y) ?_ ?_); rfl; rfl; rfl; intro w1 b1 hv1 hn1)
    | ((with_reducible refine allocN (o := ⟨some 4, _, _, _, _, _⟩) ?_ ?_ ?_); rfl; rfl; intro w3 b3 hv3 hn3)
    | ((with_reducible refine loadE (o := ⟨some 7, _, _, _, _, _⟩) ?_ (.tmp 3) ?_ ?_ (hv1.next hn3.bl) ?_); rfl; rfl; rfl)
    | (go_at_call 77; have h0 := msub_any bm P n 0 y w3 ((hF.out.next hn1.bl).next hn3.bl) (by have := hF.out.gt; omega) hy; rw [Nat.zero_add] at h0; refine h0.mono ?_; rintro e w4 ⟨rfl, hb4⟩; replace hb4 := hide hb4; clear h0)
    | ((with_reducible refine storeE (v' := (P - y) % P) (o := ⟨none, _, _, _, _, _⟩) ?_ (.tmp 4) (.tmp 8) ?_ ?_ ?_ (hv3.next hb4.out) ?_); rfl; rfl; rfl; rfl; intro w6 hv6 ho6))
  exact retE rfl rfl hv6 rfl ⟨rfl, Only.below (below_next (below_next hn1.bl hn3.bl) hb4.out) ho6.out (by have := hn1.sz; have := hn3.lo; omega)⟩
end Go.Proofs.Ytincemkjdgbnnaa
