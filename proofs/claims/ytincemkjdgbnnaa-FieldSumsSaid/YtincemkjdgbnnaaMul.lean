/- Walks: package mont: Mul. -/
import Derived.Test.YtincemkjdgbnnaaRed
set_option linter.unusedVariables false
set_option linter.unusedSimpArgs false
namespace Go.Proofs.Ytincemkjdgbnnaa
open Go.RowKit Lm

theorem Try.zeroRow : (Try.prog.info? 164).map (·.zero) = some (some (.agg (nums .u64 Z13).toArray)) := by kernel_rfl

/-- what a round carries. -/
def tq (n X x V : Nat) : Nat := (X % B64 ^ n + x * V) / B64 ^ n
def ov (n U : Nat) : Nat := U / B64 ^ (n + 1)
/-- what a round does to the row: a multiple of a number is added, and what was carried over. -/
theorem row_round {X x V o n : Nat} (hX : X < B64 ^ (n + 1)) :
    (X % B64 ^ n + x * V) % B64 ^ n + B64 ^ n * ad1 (X / B64 ^ n % B64) (tq n X x V) o = (X + x * V + o * B64 ^ n) % B64 ^ (n + 1) ∧
    cy1 (X / B64 ^ n % B64) (tq n X x V) o = ov n (X + x * V + o * B64 ^ n) := by
  unfold ov
  have h1 : X / B64 ^ n < B64 := (Nat.div_lt_iff_lt_mul (pw_pos n)).2 (by rw [Nat.pow_succ, Nat.mul_comm] at hX; exact hX)
  rw [Nat.mod_eq_of_lt h1]
  have h2 : X + x * V + o * B64 ^ n = (X % B64 ^ n + x * V) + B64 ^ n * (X / B64 ^ n + o) := by
    have := Nat.mod_add_div X (B64 ^ n)
    rw [Nat.mul_add, Nat.mul_comm o]; omega
  rw [h2, Nat.pow_succ, carry_mod, carry_div (pw_pos n)]
  unfold ad1 cy1 tq
  constructor
  · congr 3; omega
  · congr 1; omega

theorem mid_tail0 {i : Nat} {X : List Nat} (h : i + X.length + 1 ≤ 13) : mid i (X ++ [0]) Z13 = mid i X Z13 := by
  unfold mid Z13
  rw [List.drop_replicate, List.drop_replicate, List.length_append, List.length_singleton, List.append_assoc, List.singleton_append, ← List.replicate_succ]
  congr 3; omega
theorem fix_snoc0 {n v : Nat} (h : v < B64 ^ n) : fix B64 (n + 1) v = fix B64 n v ++ [0] := by
  have := fix_succ (B := B64) (d := 0) h B64_pos
  rwa [Nat.mul_zero, Nat.add_zero] at this
/-- the row behind a round. -/
theorem row_next {i n V : Nat} (h : i + 1 + (n + 1) ≤ 13) (h0 : V % B64 = 0) : mid i (fix B64 (n + 1) (V % B64 ^ (n + 1))) Z13 = mid (i + 1) (fix B64 (n + 1) (V / B64 % B64 ^ n)) Z13 := by
  have h1 : V % B64 ^ (n + 1) % B64 = 0 := by rw [Nat.pow_succ, Nat.mod_mul_left_mod, h0]
  have h2 : V % B64 ^ (n + 1) / B64 = V / B64 % B64 ^ n := by rw [Nat.pow_succ, Nat.mul_comm, Nat.mod_mul, h0, Nat.zero_add, Nat.mul_div_cancel_left _ B64_pos]
  rw [fix_zero_cons h1, h2, fix_snoc0 (Nat.mod_lt _ (pw_pos n)), mid_zero (by rw [fix_length]; omega), mid_tail0 (by rw [fix_length]; omega)]

theorem ve_copy {X n : Nat} (hX : X < B64 ^ n) (hn : n ≤ 6) : (ve 0).take 0 ++ (nums .u64 ((fix B64 n X).take n) ++ (ve 0).drop (0 + min (fix B64 n X).length n)) = ve X := by
  have h1 : (ve 0).drop n = nums .u64 ((fix B64 6 0).drop n) := by unfold ve nums; rw [List.map_drop]
  have h2 := ch_fix (k := 6) (n := n) (v := X) (x := 0) hn (pw_pos n) hX
  rw [List.take_zero, List.nil_append, fix_length, Nat.min_self, Nat.zero_add, List.take_of_length_le (by rw [fix_length]; exact Nat.le_refl _), h1]
  unfold ve
  rw [← h2, ch]
  unfold nums
  rw [List.map_append]
/-- 'times' upon the row. -/
theorem times_row (d bv ov c' br i c n X V : Nat) (tu : TypeId) (w : World) (hd : d < B64) (hM : RowN w .u64 bv ov (fix B64 n V)) (hV : V < B64 ^ n) (hblk : Blk w br tu .u64 (mid i (fix B64 (n + 1) X) Z13))
    (hin : i + (n + 1) ≤ 13) (hc : n + 1 ≤ c) (hne : bv ≠ br) (hn : n < lim) :
    Calls Try.prog 118 #[.int .u64 (d : Int), .slice (some ⟨bv, ov, none⟩) n c', .slice (some ⟨br, i, none⟩) (n + 1) c] w fun e w' =>
      e = .returned (.int .u64 (tq n X d V : Int)) ∧
      Blk w' br tu .u64 (mid i (fix B64 n ((X % B64 ^ n + d * V) % B64 ^ n)) (mid i (fix B64 (n + 1) X) Z13)) ∧ Only w w' br := by
  have h := times_any d bv ov n c' br i (n + 1) c tu (fix B64 n V) (mid i (fix B64 (n + 1) X) Z13) w hd hM (fix_ok B64_pos _ _) (fix_length ..) hblk (mid_ok (fix_ok B64_pos _ _) Z13_ok)
    (by rw [fix_length, mid_length (by rw [fix_length]; exact hin)]; exact (show i + n ≤ 13 by omega)) (by rw [fix_length]; omega) hc hne (by rw [fix_length]; exact hn)
  rw [mid_take (by rw [fix_length]; exact hin) (by rw [fix_length]; omega), fix_take (by omega), val_fix, val_fix_of_lt hV] at h
  exact h
theorem row_cell {w : World} {br i n X Y : Nat} {tu : TypeId} (h : Blk w br tu .u64 (mid i (fix B64 n Y) (mid i (fix B64 (n + 1) X) Z13))) (hin : i + (n + 1) ≤ 13) : w.cell? ⟨br, i + n, none⟩ = some (.int .u64 ((X / B64 ^ n % B64 : Nat) : Int)) := by
  have := h.cell (i := i + n) (by rw [mid_length (by rw [mid_length (by rw [fix_length]; exact hin), fix_length]; exact (show i + n ≤ 13 by omega)), mid_length (by rw [fix_length]; exact hin)]; exact (show i + n < 13 by omega))
  rw [row_nth hin] at this
  exact this
theorem row_cell0 {w : World} {br i n X : Nat} {tu : TypeId} (h : Blk w br tu .u64 (mid i (fix B64 (n + 1) X) Z13)) (hin : i + (n + 1) ≤ 13) : w.cell? ⟨br, i, none⟩ = some (.int .u64 ((X % B64 : Nat) : Int)) := by
  have := h.cell (i := i) (by rw [mid_length (by rw [fix_length]; exact hin)]; exact (show i < 13 by omega))
  have e := nth_mid (off := i) (X := fix B64 (n + 1) X) (L := Z13) (i := 0) (by rw [fix_length]; exact hin) (by rw [fix_length]; omega)
  rw [nth_fix (by omega), Nat.pow_zero, Nat.div_one] at e
  rw [show nth (mid i (fix B64 (n + 1) X) Z13) i = X % B64 from e] at this
  exact this
theorem row_put {w : World} {br i n X x V o : Nat} {tu : TypeId} (h : Blk w br tu .u64 (mid i (fix B64 n ((X % B64 ^ n + x * V) % B64 ^ n)) (mid i (fix B64 (n + 1) X) Z13))) (hin : i + (n + 1) ≤ 13) (hX : X < B64 ^ (n + 1)) :
    Blk (w.setCell ⟨br, i + n, none⟩ (.int .u64 (ad1 (X / B64 ^ n % B64) (tq n X x V) o : Int))) br tu .u64 (mid i (fix B64 (n + 1) ((X + x * V + o * B64 ^ n) % B64 ^ (n + 1))) Z13) := by
  have h1 := h.set_ (i + n) (E := _) (z := ad1 (X / B64 ^ n % B64) (tq n X x V) o) rfl
  rw [row_set hin (Nat.mod_lt _ (pw_pos n)) (ad1_lt _ _ _), (row_round hX).1] at h1
  exact h1
theorem fix_row {w : World} {b x n : Nat} {t : TypeId} (h : VB w b t (ve x)) (hn : n ≤ 6) : RowN w .u64 b 0 (fix B64 n x) := by
  have := (VB.to_blk h).row0.take n
  rwa [fix_take hn] at this
theorem FB.rowN {w : World} {b P n : Nat} (h : FB w b P n) : RowN w .u64 b 0 (fix B64 n P) := by
  have := h.rowP.take n
  rwa [fix_take h.n6] at this

set_option maxRecDepth 100000 in
set_option maxHeartbeats 3200000 in
theorem mmul_any (bm P n x y : Nat) (w : World) (hF : FB w bm P n) (hI : InvOk P) (hx : x < P) (hy : y < P) :
    Calls Try.prog 70 #[.pointer (some ⟨bm, 0, none⟩), vE x, vE y] w fun e w' => e = .returned (vE (x * y * rinv P n % P)) ∧ Below w.heap.size w w' := by
  go_enter Try.func70, Try.ntmps70
  go_upto_region 2 with (first
    | ((with_reducible refine boxN (o := ⟨some 4, _, _, _, _, _⟩) ?_ (.tmp 1) ?_ (v := x) ?_ ?_); rfl; rfl; rfl; intro w1 b1 hv1 hn1)
    | ((with_reducible refine boxN (o := ⟨some 5, _, _, _, _, _⟩) ?_ (.tmp 2) ?_ (v := y) ?_ ?_); rfl; rfl; rfl; intro w2 b2 hv2 hn2)
    | ((with_reducible refine allocN (o := ⟨some 6, _, _, _, _, _⟩) ?_ ?_ ?_); rfl; rfl; intro w3 b3 hv3 hn3)
    | ((with_reducible refine wpList_alloc (o := ⟨some 7, _, _, _, _, _⟩) ?_ 164 ?_ (nums .u64 Z13) Try.zeroRow ?_); rfl; rfl; intro w4 b4 h1 hv4 h3 h4; have hn4 : New w3 w4 b4 := ⟨by rw [h1]; exact Nat.le_refl _, by rw [h4]; omega, h3⟩; clear h1 h3 h4))
  have HB := hide (below_next (below_next (below_next hn1.bl hn2.bl) hn3.bl) hn4.bl)
  have Hb := hide (show w.heap.size ≤ b1 ∧ b1 < b2 ∧ b2 < b3 ∧ b3 < b4 ∧ bm < b1 ∧ b4 < w4.heap.size from
    ⟨hn1.lo, Nat.lt_of_lt_of_le hn1.hi hn2.lo, Nat.lt_of_lt_of_le hn2.hi hn3.lo, Nat.lt_of_lt_of_le hn3.hi hn4.lo, Nat.lt_of_lt_of_le hF.vb.lt hn1.lo, hn4.hi⟩)
  have Hv1 := hide (((hv1.next hn2.bl).next hn3.bl).next hn4.bl)
  have Hv2 := hide ((hv2.next hn3.bl).next hn4.bl)
  have Hv3 := hide (hv3.next hn4.bl)
  have Hv4 := hide hv4
  have HF := hide (hF.next HB.out)
  have c1 := HF.out.cellN
  have n1 := hF.n1
  have n6 := hF.n6
  have Hx := hide (show x < P ∧ y < P ∧ x < B64 ^ n ∧ y < B64 ^ n from ⟨hx, hy, Nat.lt_trans hx hF.lt, Nat.lt_trans hy hF.lt⟩)
  have hI := hide hI
  have hP0 : 0 < P := by omega
  clear hv1 hv2 hv3 hv4 hn1 hn2 hn3 hn4 hF hx hy
  go_wp2_with fail
  go_loopw [9, 10, 11, 12, 13, 14, 15, 22] (fun ov _ _ _ _ _ _ k wr => ∃ i : Nat, i ≤ n ∧ k = .int .i64 i ∧ ov = .int .u64 ((mT P x y i / B64 ^ n : Nat) : Int) ∧ Only w4 wr b4 ∧
      Blk wr b4 164 .u64 (mid i (fix B64 (n + 1) (mT P x y i % B64 ^ n)) Z13)) (fun _ _ _ _ _ _ _ k _ => n - (intOf k).toNat)
  case atStart =>
    exact ⟨0, Nat.zero_le _, rfl, by simp [mT], Only.refl _ _, by simp only [mT, Nat.zero_mod]; rw [row_start n (by omega)]; exact Hv4.out⟩
  case round =>
    obtain ⟨i, hi, rfl, rfl, hon, hblk⟩ := hrel
    have hT := mT_lt (b := y) hI.out hP0 Hx.out.1 i
    have hTo : mT P x y i / B64 ^ n ≤ 1 := by
      have := (Nat.div_lt_iff_lt_mul (pw_pos n)).2 (show mT P x y i < 2 * B64 ^ n by have := HF.out.lt; omega)
      omega
    have hTm : mT P x y i % B64 ^ n < B64 ^ n := Nat.mod_lt _ (pw_pos n)
    have hpn : B64 ^ n < B64 ^ (n + 1) := Nat.pow_lt_pow_right (by decide) (by omega)
    by_cases hlt : i < n
    · have i1 := wrap_in ((i : Int) + (n : Int)) (by omega) (by omega)
      have i2 := wrap_in ((i : Int) + (n : Int) + 1) (by omega) (by omega)
      have i3 : (i : Int) ≤ (i : Int) + (n : Int) + 1 := by omega
      have i4 : (i : Int) + (n : Int) + 1 ≤ 13 := by omega
      have i5 : ((i : Int) + (n : Int) + 1).toNat = i + n + 1 := by omega
      have i6 : i + n + 1 - i = n + 1 := by omega
      have i7 : (i : Int) < 6 := by omega
      have i8 : (n : Int) ≤ 6 := by omega
      have r1 := fix_cell (w := wr) (hon.vb Hv2.out (by have := Hb.out; omega)) (show i < 6 by omega)
      have H1 := hide (times_row (dg y i) b1 0 6 b4 i (13 - i) n (mT P x y i % B64 ^ n) x 164 wr.drew (dg_lt y i) (fix_row (hon.vb Hv1.out (by have := Hb.out; omega)).drew n6) Hx.out.2.2.1 hblk.drew (by omega) (by omega) (by have := Hb.out; omega) (by unfold lim; omega))
      have hXU : mT P x y i % B64 ^ n + dg y i * x + mT P x y i / B64 ^ n * B64 ^ n = mT P x y i + dg y i * x := by
        have := Nat.mod_add_div (mT P x y i) (B64 ^ n)
        rw [Nat.mul_comm (_ / _)]; omega
      have HX := hide (show mT P x y i % B64 ^ n < B64 ^ (n + 1) by omega)
      have HXU := hide hXU
      have HO := hide hon.drew
      have HM := hide (mT_step (a := x) (b := y) (i := i) hI.out)
      have hq0 := hide (mq_zero hI.out (mT P x y i + dg y i * x))
      have hq1 := hide (show (mT P x y i + dg y i * x + mq P (mT P x y i + dg y i * x) * P) / B64 = mT P x y (i + 1) from rfl)
      have hT1 := hide (mT_lt (b := y) hI.out hP0 Hx.out.1 (i + 1))
      clear hXU hblk hon hT hTm
      generalize mT P x y i % B64 ^ n = X at *
      generalize mT P x y i / B64 ^ n = o at *
      generalize hU : mT P x y i + dg y i * x = U at *
      generalize dg y i = d at *
      have hU := hide hU
      go_upto_region 8 with fail
      go_region_law (((try go_simp); go_at_call 118; refine H1.out.mono ?_; rintro e w5 ⟨rfl, hb5, ho5⟩; have Hb5 := hide hb5; have Ho5 := hide ho5; clear hb5 ho5))
      have hin : i + (n + 1) ≤ 13 := by omega
      have r2 := row_cell Hb5.out hin
      have r3 := Hb5.out.frozen (i + n)
      have Hp := hide (row_put (o := o) Hb5.out hin HX.out)
      have hcy := hide (row_round (x := d) (V := x) (o := o) HX.out).2
      rw [HXU.out] at Hp hcy
      have i9 : (n : Int) < (n : Int) + 1 := by omega
      generalize tq n X d x = k1 at *
      generalize X / B64 ^ n % B64 = t1 at *
      clear H1
      go_upto_region 10 with fail
      rw [hcy.out]
      have HO6 := hide ((HO.out.trans Ho5.out).set_ (i + n) (.int .u64 (ad1 t1 k1 o : Int)))
      obtain ⟨w6, hw6⟩ : ∃ w6, w6 = w5.setCell ⟨b4, i + n, none⟩ (.int .u64 (ad1 t1 k1 o : Int)) := ⟨_, rfl⟩
      rw [← hw6] at Hp HO6 ⊢
      clear hw6 r1 r2 r3 hcy Hb5 Ho5 HO c1
      have r4 := row_cell0 Hp.out hin
      have hF6 := HF.out.only HO6.out (by have := Hb.out; omega)
      have r5 := hF6.cellI
      have hm : U % B64 ^ (n + 1) % B64 = U % B64 := by rw [Nat.pow_succ, Nat.mod_mul_left_mod]
      rw [hm] at r4
      have r6 : IntKind.u64.wrap (((U % B64 : Nat) : Int) * ((ninv P : Nat) : Int)) = (mq P U : Int) := by
        rw [← Int.natCast_mul, IntKind.wrap_u64, mq, B64_eq]; omega
      have H2 := hide (times_row (mq P U) bm 0 6 b4 i (13 - i) n (U % B64 ^ (n + 1)) P 164 w6.drew (mq_lt P U) hF6.drew.rowN HF.out.lt Hp.out.drew (by omega) (by omega) (by have := Hb.out; omega) (by unfold lim; omega))
      have HU := hide (show U % B64 ^ (n + 1) < B64 ^ (n + 1) from Nat.mod_lt _ (pw_pos _))
      clear hm hF6
      have hmq := hide (show mq P U = mq P U from rfl)
      generalize U % B64 = u0 at *
      go_upto_region 10 with fail
      go_cut [15] (fun s wx => s = .int .u64 (tq n (U % B64 ^ (n + 1)) (mq P U) P : Int) ∧
        Blk wx b4 164 .u64 (mid i (fix B64 n ((U % B64 ^ (n + 1) % B64 ^ n + mq P U * P) % B64 ^ n)) (mid i (fix B64 (n + 1) (U % B64 ^ (n + 1))) Z13)) ∧ Only w6 wx b4)
      case first =>
        go_region_law (((try go_simp); go_at_call 118; refine H2.out.mono ?_; rintro e w7 ⟨rfl, hb7, ho7⟩; have Hb7 := hide hb7; have Ho7 := hide ho7; clear hb7 ho7))
        all_goals (go_wp2_with fail; go_meet; exact ⟨rfl, Hb7.out, (Only.refl w6 b4).drew.trans Ho7.out⟩)
      obtain ⟨rfl, hb7, ho7⟩ := hcut
      have Hb7 := hide hb7
      have Ho7 := hide ho7
      clear hb7 ho7 H2 r4 r5 r6
      generalize wc = w7 at *
      have r2 := row_cell Hb7.out hin
      have r3 := Hb7.out.frozen (i + n)
      have Hp9 := hide (row_put (o := 0) Hb7.out hin HU.out)
      have hcy := hide (row_round (x := mq P U) (V := P) (o := 0) HU.out).2
      have hUV : U % B64 ^ (n + 1) + mq P U * P + 0 * B64 ^ n + B64 ^ (n + 1) * ov n U = U + mq P U * P := by
        have := Nat.mod_add_div U (B64 ^ (n + 1))
        unfold ov; omega
      have hV0 : (U % B64 ^ (n + 1) + mq P U * P + 0 * B64 ^ n) % B64 ^ (n + 1) = (U + mq P U * P) % B64 ^ (n + 1) := by rw [← hUV, Nat.add_mul_mod_self_left]
      have hV1 : ov n (U % B64 ^ (n + 1) + mq P U * P + 0 * B64 ^ n) + ov n U = mT P x y (i + 1) / B64 ^ n := by
        rw [← hq1.out, Nat.div_div_eq_div_mul, Nat.mul_comm B64, ← Nat.pow_succ, ← hUV, Nat.add_mul_div_left _ _ (pw_pos _)]; rfl
      have hT2 : mT P x y (i + 1) / B64 ^ n ≤ 1 := by
        have := (Nat.div_lt_iff_lt_mul (pw_pos n)).2 (show mT P x y (i + 1) < 2 * B64 ^ n by have := HF.out.lt; have := hT1.out; omega)
        omega
      rw [hV0, row_next (by omega) hq0.out, hq1.out] at Hp9
      have HV1 := hide hV1
      have hT2 := hide hT2
      have HO9 := hide ((HO6.out.trans Ho7.out).set_ (i + n) (.int .u64 (ad1 (U % B64 ^ (n + 1) / B64 ^ n % B64) (tq n (U % B64 ^ (n + 1)) (mq P U) P) 0 : Int)))
      clear hUV hV0 hV1 HO6 Ho7
      generalize tq n (U % B64 ^ (n + 1)) (mq P U) P = k2 at *
      generalize U % B64 ^ (n + 1) / B64 ^ n % B64 = t2 at *
      go_upto_region 12 with fail
      rw [hcy.out]
      obtain ⟨w9, hw9⟩ : ∃ w9, w9 = w7.setCell ⟨b4, i + n, none⟩ (.int .u64 (ad1 t2 k2 0 : Int)) := ⟨_, rfl⟩
      rw [← hw9] at Hp9 HO9 ⊢
      have i9 : IntKind.u64.wrap ((ov n U : Int) + (ov n (U % B64 ^ (n + 1) + mq P U * P + 0 * B64 ^ n) : Int)) = ((mT P x y (i + 1) / B64 ^ n : Nat) : Int) := by
        rw [← Int.natCast_add, Nat.add_comm, HV1.out, u64_small _ (Nat.lt_of_le_of_lt hT2.out (by decide))]
      clear hw9 r2 r3 hcy Hb7
      generalize ov n (U % B64 ^ (n + 1) + mq P U * P + 0 * B64 ^ n) = e2 at *
      generalize ov n U = e1 at *
      generalize ho9 : mT P x y (i + 1) / B64 ^ n = o9 at *
      have ho9 := hide ho9
      go_wp2_with fail
      exact ⟨⟨i + 1, by omega, by simp, by rw [ho9.out], HO9.out, Hp9.out⟩, by simp [intOf]; omega⟩
    · obtain rfl : i = n := by omega
      have hin : i + (i + 1) ≤ 13 := by omega
      have HE := hide (mT_end (a := x) hI.out Hx.out.2.2.2)
      have hTT : mT P x y i % B64 ^ i + mT P x y i / B64 ^ i * B64 ^ i = mT P x y i := by rw [Nat.mul_comm (_ / _)]; exact Nat.mod_add_div _ _
      have HT := hide hT
      have HTT := hide hTT
      have Hblk := hide hblk
      have Hon := hide hon
      have HTm := hide hTm
      clear hT hTT hblk hon hTm
      generalize hTn : mT P x y i = T at *
      have hTn := hide hTn
      generalize T % B64 ^ i = X at *
      generalize T / B64 ^ i = o at *
      go_upto_region 15 with (((with_reducible refine allocN (o := ⟨some 16, _, _, _, _, _⟩) ?_ ?_ ?_); rfl; rfl; intro w5 b5 hv5 hn5))
      have Hv5 := hide hv5
      have HL5 := hide (Hblk.out.next hn5.bl)
      have hB4w : Hid (Below w.heap.size w wr) := Only.below HB.out Hon.out (by have := Hb.out; omega)
      have hv3 := (Hon.out.vb Hv3.out (by have := Hb.out; omega))
      have hFr := HF.out.only Hon.out (by have := Hb.out; omega)
      have Hb5 := hide (show b3 < b5 ∧ b4 < b5 ∧ bm < b5 ∧ w.heap.size ≤ b5 from by
        have h1 := hv3.lt
        have h2 := Hblk.out.lt
        have h3 := hFr.vb.lt
        have h4 := hn5.lo
        have h5 := hB4w.out.size
        omega)
      have HB5 := hide (below_next hB4w.out hn5.bl)
      have Hv35 := hide (hv3.next hn5.bl)
      have HF5 := hide (hFr.next hn5.bl)
      have hrd : Rd w5.drew .u64 (some ⟨b4, i, none⟩) (fix B64 i X) := fun _ => ⟨_, _, rfl, by
        have := (HL5.out.drew.row i).take i
        rw [mid_take (by rw [fix_length]; exact hin) (by rw [fix_length]; omega), fix_take (by omega)] at this
        exact this⟩
      obtain ⟨w6, hrun, hv6, ho6⟩ := copy_v (P := Try.prog) (dT := 104) (sT := 104) (ty := 3) (off := 0) (dLen := i) (dCap := 6) (sCap := 13 - i) Try.underlying104 (by kernel_rfl) hv5.drew hrd (by rw [ve_length]; omega)
      rw [ve_copy HTm.out n6] at hv6
      rw [fix_length] at hrun
      have Hrun := hide hrun
      have Hv6 := hide hv6
      have Ho6 := hide ho6
      have Hlow := hide (lowered_any bm P i X o w6 ((HF5.out.drew).only ho6 (by have := Hb5.out; omega)) HTm.out hTo (by rw [HTT.out]; exact HT.out))
      rw [HTT.out] at Hlow
      clear hrd hrun hv6 ho6 hv5 hn5 hv3 hFr Hblk HL5 c1
      have i1 := wrap_in (2 * (i : Int)) (by omega) (by omega)
      have i2 : (i : Int) ≤ 2 * (i : Int) := by omega
      have i3 : 2 * (i : Int) ≤ 13 := by omega
      have i4 : (2 * (i : Int)).toNat = 2 * i := by omega
      have i5 : 2 * i - i = i := by omega
      have i6 : (i : Int) ≤ 6 := by omega
      have i7 : ¬ (13 = i) := by omega
      go_upto_region 15 with fail
      go_region_law (((with_reducible refine step_copy (o := ⟨some 88, _, _, _, _, _⟩) ?_ (.tmp 83) (.tmp 87) _ _ ?_ ?_ ?_ Hrun.out ?_); rfl; rfl; (go_simp); (go_simp)))
      have hO6 := Only.below (below_drew HB5.out) Ho6.out (by have := Hb5.out; omega)
      have HB6 := hide hO6
      have Hv36 := hide (Ho6.out.vb Hv35.out.drew (by have := Hb5.out; omega))
      clear hO6 Ho6 Hrun HB5
      go_wp2_with (first
          | ((with_reducible refine loadE (o := ⟨some 90, _, _, _, _, _⟩) ?_ (.tmp 16) ?_ ?_ Hv6.out ?_); rfl; rfl; rfl)
          | (go_at_call 120; refine Hlow.out.mono ?_; rintro e w7 ⟨rfl, hb7⟩; replace hb7 := hide hb7)
          | ((with_reducible refine storeE (v' := T % P) (o := ⟨none, _, _, _, _, _⟩) ?_ (.tmp 6) (.tmp 92) ?_ ?_ ?_ (Hv36.out.next hb7.out) ?_); rfl; rfl; rfl; rfl; intro w8 hv8 ho8))
      refine retE rfl rfl hv8 rfl ⟨by rw [← HE.out], Only.below (below_next HB6.out hb7.out) ho8.out (by have := Hb.out; omega)⟩
end Go.Proofs.Ytincemkjdgbnnaa
