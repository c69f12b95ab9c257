/- Walks: package mont: sums and differences. -/
import Derived.Test.YtincemkjdgbnnaaArr
set_option linter.unusedVariables false
set_option linter.unusedSimpArgs false
namespace Go.Proofs.Ytincemkjdgbnnaa
open Go.RowKit Lm

theorem Try.zeroElem : (Try.prog.info? 98).map (·.zero) = some (some (.agg (ve 0).toArray)) := by kernel_rfl
theorem Try.sizeElem : (Try.prog.info? 98).map (·.size) = some 6 := by kernel_rfl

section
variable {ops : Array Oper} {rest : List Oper} {o : Oper} {a : Act} {w : World} {Q : Exit → Act → World → Prop}
theorem sizeV (x : Nat) : (Try.prog.info? 98).map (·.size) = some (ve x).length := by rw [ve_length]; exact Try.sizeElem
/-- an element gets a block. -/
theorem boxE (hgd : o.guard = none) (x : Operand) (ho : o.op = .box 98 x) {v : Nat} (hx : a.eval x = vE v)
    (h : ∀ w' b, Hid (b = w.heap.size) → VB w' b 98 (ve v) → Hid (Below w.heap.size w w') → Hid (w'.heap.size = b + 1) → wpList Try.prog ops Q rest (a.put o.dst (.pointer (some ⟨b, 0, none⟩))) w') : wpList Try.prog ops Q (o :: rest) a w :=
  wpList_box hgd _ x ho (ve v) hx fun w' b h1 h2 h3 h4 => h w' b (hide h1) h2 (hide h3) (hide h4)
theorem allocE (hgd : o.guard = none) (ho : o.op = .alloc 98)
    (h : ∀ w' b, Hid (b = w.heap.size) → VB w' b 98 (ve 0) → Hid (Below w.heap.size w w') → Hid (w'.heap.size = b + 1) → wpList Try.prog ops Q rest (a.put o.dst (.pointer (some ⟨b, 0, none⟩))) w') : wpList Try.prog ops Q (o :: rest) a w :=
  wpList_alloc hgd _ ho (ve 0) Try.zeroElem fun w' b h1 h2 h3 h4 => h w' b (hide h1) h2 (hide h3) (hide h4)
theorem loadE (hgd : o.guard = none) (x : Operand) (ho : o.op = .load 98 x) {b v : Nat} (hx : a.eval x = .pointer (some ⟨b, 0, none⟩)) (hv : VB w b 98 (ve v))
    (h : wpList Try.prog ops Q rest (a.put o.dst (vE v)) w) : wpList Try.prog ops Q (o :: rest) a w :=
  wpList_loadW hgd _ x ho hx hv Try.underlying98 rfl (sizeV v) h
theorem storeE (hgd : o.guard = none) (x y : Operand) (ho : o.op = .store 98 x y) {b v v' : Nat} (hx : a.eval x = .pointer (some ⟨b, 0, none⟩)) (hy : a.eval y = vE v') (hv : VB w b 98 (ve v))
    (h : ∀ w', VB w' b 98 (ve v') → Hid (Only w w' b) → wpList Try.prog ops Q rest (a.put o.dst undef) w') : wpList Try.prog ops Q (o :: rest) a w :=
  wpList_storeW hgd _ x y ho hx hv (ve v') hy (sizeV v') (ve_one v') (by rw [ve_length, ve_length]) fun w' h1 h2 => h w' h1 (hide h2)
theorem retE {fn : Func} {R : Ending → World → Prop} {p : Tmp} (hr : fn.results = #[.cell p 98]) {b v : Nat} (hp : a.tmps.getD p undef = .pointer (some ⟨b, 0, none⟩))
    (hv : VB w b 98 (ve v)) (hdf : a.defers = []) (hR : R (.returned (vE v)) w) : bodyPost Try.prog fn R .ret a w :=
  bodyPost_cell hr hp hv Try.underlying98 rfl (sizeV v) hdf hR
end

/-- a field's block, and what is known of its numbers. -/
structure FB (w : World) (b P n : Nat) : Prop where
  vb : VB w b 155 (fcells P n)
  n1 : 0 < n
  n6 : n ≤ 6
  lt : P < B64 ^ n
  gt : 1 < P
theorem FB.next {w w' : World} {b P n : Nat} (h : FB w b P n) (hb : Below w.heap.size w w') : FB w' b P n := ⟨h.vb.next hb, h.n1, h.n6, h.lt, h.gt⟩
theorem FB.below {w w' : World} {b P n B : Nat} (h : FB w b P n) (hb : Below B w w') (hg : b < B) : FB w' b P n := ⟨h.vb.below hb hg, h.n1, h.n6, h.lt, h.gt⟩
theorem FB.only {w w' : World} {b b' P n : Nat} (h : FB w b P n) (ho : Only w w' b') (hne : b ≠ b') : FB w' b P n := ⟨ho.vb h.vb hne, h.n1, h.n6, h.lt, h.gt⟩
theorem FB.drew {w : World} {b P n : Nat} (h : FB w b P n) : FB w.drew b P n := ⟨h.vb.drew, h.n1, h.n6, h.lt, h.gt⟩
theorem FB.cellN {w : World} {b P n : Nat} (h : FB w b P n) : w.cell? ⟨b, 6, none⟩ = some (.int .i64 (n : Int)) := (h.vb.cell 6).trans rfl
theorem FB.cellI {w : World} {b P n : Nat} (h : FB w b P n) : w.cell? ⟨b, 7, none⟩ = some (.int .u64 (ninv P : Int)) := (h.vb.cell 7).trans rfl
theorem nums_get {k : IntKind} {l : List Nat} {i : Nat} (h : i < l.length) : (nums k l)[i]? = some (.int k (nth l i : Int)) := by
  unfold nums; rw [List.getElem?_map, List.getElem?_eq_getElem h, nth_of_lt h]; rfl
theorem FB.cellQ {w : World} {b P n i : Nat} (h : FB w b P n) (hi : i < 6) : w.cell? ⟨b, i, none⟩ = some (.int .u64 (nth (fix B64 6 P) i : Int)) := by
  rw [h.vb.cell, fcells, List.getElem?_append_left (by rw [nums_length, fix_length]; exact hi), nums_get (by rw [fix_length]; exact hi)]
theorem FB.rowP {w : World} {b P n : Nat} (h : FB w b P n) : RowN w .u64 b 0 (fix B64 6 P) := fun i hi => by
  rw [fix_length] at hi; rw [Nat.zero_add]; exact h.cellQ hi

theorem fix_take {k i x : Nat} (h : i ≤ k) : (fix B64 k x).take i = fix B64 i x := by
  apply List.ext_getElem
  · rw [List.length_take, fix_length, fix_length]; exact Nat.min_eq_left h
  · intro j h1 h2
    rw [← nth_of_lt h1, ← nth_of_lt h2]
    rw [fix_length] at h2
    rw [nth_take h2, nth_fix (by omega), nth_fix h2]
theorem ch_fix {k n v x : Nat} (hn : n ≤ k) (hx : x < B64 ^ n) (hv : v < B64 ^ n) : ch B64 n v (fix B64 k x) = fix B64 k v := by
  apply List.ext_getElem
  · rw [ch_length (by rw [fix_length]; exact hn), fix_length, fix_length]
  · intro j h1 h2
    rw [← nth_of_lt h1, ← nth_of_lt h2]
    rw [fix_length] at h2
    rcases Nat.lt_or_ge j n with h | h
    · rw [ch, nth_append_left (by rw [fix_length]; exact h), nth_fix h, nth_fix h2]
    · have hp := Nat.pow_le_pow_right (n := B64) B64_pos h
      rw [nth_ch h, nth_fix h2, nth_fix h2, Nat.div_eq_of_lt (by omega), Nat.div_eq_of_lt (by omega)]
theorem vt_fix {k i x : Nat} (h : i ≤ k) : val B64 ((fix B64 k x).take i) = x % B64 ^ i := by rw [fix_take h, val_fix]

/-- the digits of a number; sums and differences of the lower digits. -/
def dg (x i : Nat) : Nat := x / B64 ^ i % B64
def sbx (x y i : Nat) : Nat := sb (B64 ^ i) (x % B64 ^ i) (y % B64 ^ i)
def box (x y i : Nat) : Nat := bo (x % B64 ^ i) (y % B64 ^ i)
def adx (x y i : Nat) : Nat := (x % B64 ^ i + y % B64 ^ i) % B64 ^ i
def cyx (x y i : Nat) : Nat := (x % B64 ^ i + y % B64 ^ i) / B64 ^ i
theorem dg_lt (x i : Nat) : dg x i < B64 := Nat.mod_lt _ B64_pos
theorem nth_fix6 {x i : Nat} (h : i < 6) : nth (fix B64 6 x) i = dg x i := nth_fix h
theorem mod_next (x i : Nat) : x % B64 ^ (i + 1) = x % B64 ^ i + B64 ^ i * dg x i := by rw [Nat.pow_succ, Nat.mod_mul]; rfl
theorem pw_pos (i : Nat) : 0 < B64 ^ i := Nat.pow_pos B64_pos
theorem box_zero (x y : Nat) : box x y 0 = 0 := by simp [box, bo, Nat.mod_one]
theorem cyx_zero (x y : Nat) : cyx x y 0 = 0 := by simp [cyx, Nat.mod_one]
theorem box_le (x y i : Nat) : box x y i ≤ 1 := bo_le _ _
theorem cyx_le (x y i : Nat) : cyx x y i ≤ 1 := by
  have h1 := Nat.mod_lt x (pw_pos i)
  have h2 := Nat.mod_lt y (pw_pos i)
  have := (Nat.div_lt_iff_lt_mul (pw_pos i)).2 (show x % B64 ^ i + y % B64 ^ i < 2 * B64 ^ i by omega)
  unfold cyx; omega
theorem box_next (x y i : Nat) : bo1 (dg x i) (dg y i) (box x y i) = box x y (i + 1) := by
  unfold box; rw [mod_next, mod_next, bo_step (Nat.mod_lt _ (pw_pos i)) (Nat.mod_lt _ (pw_pos i))]; rfl
theorem cyx_next (x y i : Nat) : cy1 (dg x i) (dg y i) (cyx x y i) = cyx x y (i + 1) := by
  unfold cyx cy1; rw [mod_next, mod_next, show x % B64 ^ i + B64 ^ i * dg x i + (y % B64 ^ i + B64 ^ i * dg y i) = (x % B64 ^ i + y % B64 ^ i) + B64 ^ i * (dg x i + dg y i) by rw [Nat.mul_add]; omega, Nat.pow_succ, carry_div (pw_pos i)]
  congr 1; omega
section
variable {w : World} {b i x y : Nat} {t : TypeId} {L : List Nat}
theorem sbx_zero : Blk w b t .u64 (ch B64 0 (sbx x y 0) L) = Blk w b t .u64 L := by rw [ch_zero]
theorem adx_zero : Blk w b t .u64 (ch B64 0 (adx x y 0) L) = Blk w b t .u64 L := by rw [ch_zero]
theorem sbx_next (h : Blk w b t .u64 (ch B64 i (sbx x y i) L)) (hi : i < L.length) :
    Blk (w.setCell ⟨b, i, none⟩ (.int .u64 (df1 (dg x i) (dg y i) (box x y i) : Int))) b t .u64 (ch B64 (i + 1) (sbx x y (i + 1)) L) := by
  have h1 := h.set_ i (E := _) (z := df1 (dg x i) (dg y i) (box x y i)) rfl
  rw [ch_set hi (show sbx x y i < B64 ^ i from sb_lt (Nat.mod_lt _ (pw_pos i)) (Nat.mod_lt _ (pw_pos i))) (df1_lt _ _ _)] at h1
  have e : sbx x y (i + 1) = sbx x y i + B64 ^ i * df1 (dg x i) (dg y i) (box x y i) := by
    unfold sbx; rw [mod_next, mod_next, Nat.pow_succ, sb_step (Nat.mod_lt _ (pw_pos i)) (Nat.mod_lt _ (pw_pos i)) (dg_lt x i) (dg_lt y i)]; rfl
  rw [e]; exact h1
theorem adx_next (h : Blk w b t .u64 (ch B64 i (adx x y i) L)) (hi : i < L.length) :
    Blk (w.setCell ⟨b, i, none⟩ (.int .u64 (ad1 (dg x i) (dg y i) (cyx x y i) : Int))) b t .u64 (ch B64 (i + 1) (adx x y (i + 1)) L) := by
  have h1 := h.set_ i (E := _) (z := ad1 (dg x i) (dg y i) (cyx x y i)) rfl
  rw [ch_set hi (show adx x y i < B64 ^ i from Nat.mod_lt _ (pw_pos i)) (ad1_lt _ _ _)] at h1
  have e : adx x y (i + 1) = adx x y i + B64 ^ i * ad1 (dg x i) (dg y i) (cyx x y i) := by
    unfold adx cyx ad1; rw [mod_next x, mod_next y, show x % B64 ^ i + B64 ^ i * dg x i + (y % B64 ^ i + B64 ^ i * dg y i) = (x % B64 ^ i + y % B64 ^ i) + B64 ^ i * (dg x i + dg y i) by rw [Nat.mul_add]; omega, Nat.pow_succ, carry_mod]
    rw [show dg x i + dg y i + (x % B64 ^ i + y % B64 ^ i) / B64 ^ i = (x % B64 ^ i + y % B64 ^ i) / B64 ^ i + (dg x i + dg y i) by omega]
  rw [e]; exact h1
/-- a place that the chain has not come to yet. -/
theorem ch_cell (h : Blk w b t .u64 (ch B64 i y (fix B64 6 x))) (hi : i < 6) : w.cell? ⟨b, i, none⟩ = some (.int .u64 (dg x i : Int)) := by
  have := h.cell (i := i) (by rw [ch_length (by rw [fix_length]; omega), fix_length]; exact hi)
  rw [nth_ch (Nat.le_refl _), nth_fix6 hi] at this
  exact this
theorem fix_cell (h : VB w b t (ve x)) (hi : i < 6) : w.cell? ⟨b, i, none⟩ = some (.int .u64 (dg x i : Int)) := by
  have := (VB.to_blk h).cell (i := i) (by rw [fix_length]; exact hi)
  rw [nth_fix6 hi] at this
  exact this
end
theorem FB.cellP {w : World} {b P n i : Nat} (h : FB w b P n) (hi : i < 6) : w.cell? ⟨b, i, none⟩ = some (.int .u64 (dg P i : Int)) := by
  have := h.cellQ hi
  rw [nth_fix6 hi] at this
  exact this
theorem sbx_end {x y n : Nat} (hn : n ≤ 6) (hx : x < B64 ^ n) (hy : y < B64 ^ n) : ch B64 n (sbx x y n) (fix B64 6 x) = fix B64 6 (sb (B64 ^ n) x y) ∧ box x y n = bo x y := by
  unfold sbx box
  rw [Nat.mod_eq_of_lt hx, Nat.mod_eq_of_lt hy]
  exact ⟨ch_fix hn hx (sb_lt hx hy), rfl⟩
theorem adx_end {x y n : Nat} (hn : n ≤ 6) (hx : x < B64 ^ n) (hy : y < B64 ^ n) : ch B64 n (adx x y n) (fix B64 6 x) = fix B64 6 ((x + y) % B64 ^ n) ∧ cyx x y n = (x + y) / B64 ^ n := by
  unfold adx cyx
  rw [Nat.mod_eq_of_lt hx, Nat.mod_eq_of_lt hy]
  exact ⟨ch_fix hn hx (Nat.mod_lt _ (pw_pos n)), rfl⟩

theorem lowered_val {x P M c : Nat} (hx : x < M) (hP : P < M) (hc : c ≤ 1) (h : x + c * M < 2 * P) :
    (c < bo x P → x = (x + c * M) % P) ∧ (¬ c < bo x P → sb M x P = (x + c * M) % P) := by
  unfold sb bo
  have hc' : c = 0 ∨ c = 1 := by omega
  rcases hc' with rfl | rfl
  · rw [Nat.zero_mul, Nat.add_zero] at *
    by_cases h1 : x < P
    · rw [if_pos h1, Nat.mod_eq_of_lt h1]; exact ⟨fun _ => rfl, fun h => by omega⟩
    · rw [if_neg h1, Nat.mod_eq_sub_mod (by omega), Nat.mod_eq_of_lt (by omega)]; exact ⟨fun h => by omega, fun _ => by omega⟩
  · rw [Nat.one_mul] at *
    have h1 : x < P := by omega
    rw [if_pos h1, Nat.mod_eq_sub_mod (by omega), Nat.mod_eq_of_lt (by omega)]; exact ⟨fun h => by omega, fun _ => by omega⟩

set_option maxRecDepth 100000 in
set_option maxHeartbeats 1600000 in
theorem lowered_any (bm P n x cy : Nat) (w : World) (hF : FB w bm P n) (hx : x < B64 ^ n) (hcy : cy ≤ 1) (hlt : x + cy * B64 ^ n < 2 * P) :
    Calls Try.prog 120 #[.pointer (some ⟨bm, 0, none⟩), vE x, .int .u64 (cy : Int)] w fun e w' =>
      e = .returned (vE ((x + cy * B64 ^ n) % P)) ∧ Below w.heap.size w w' := by
  go_enter Try.func120, Try.ntmps120
  go_upto_region 2 with (first
    | ((with_reducible refine boxE (o := ⟨some 4, _, _, _, _, _⟩) ?_ (.tmp 1) ?_ (v := x) ?_ ?_); rfl; rfl; rfl; intro w1 b1 hb1 hv1 hbw1 hs1)
    | ((with_reducible refine allocE (o := ⟨some 6, _, _, _, _, _⟩) ?_ ?_ ?_); rfl; rfl; intro w2 b2 hb2 hv2 hbw2 hs2)
    | ((with_reducible refine loadE (o := ⟨some 10, _, _, _, _, _⟩) ?_ (.tmp 4) ?_ ?_ (hv1.next hbw2.out) ?_); rfl; rfl; rfl)
    | ((with_reducible refine allocE (o := ⟨some 7, _, _, _, _, _⟩) ?_ ?_ ?_); rfl; rfl; intro w3 b3 hb3 hv3 hbw3 hs3)
    | ((with_reducible refine storeE (v' := x) (o := ⟨none, _, _, _, _, _⟩) ?_ (.tmp 7) (.tmp 10) ?_ ?_ ?_ hv3 ?_); rfl; rfl; rfl; rfl; intro w4 hv4 ho4))
  obtain ⟨g1, g2, g3, g4, g5⟩ := hide (show _ ∧ _ ∧ _ ∧ _ ∧ _ from ⟨hb1.out, hs1.out, hb2.out, hs2.out, hb3.out⟩) |>.out
  have HB4 := hide (Only.below (below_next (below_next hbw1.out hbw2.out) hbw3.out) ho4.out (by omega))
  have Hv1 := hide (ho4.out.vb ((hv1.next hbw2.out).next hbw3.out) (by omega))
  have Hv2 := hide (ho4.out.vb (hv2.next hbw3.out) (by omega))
  have HF := hide (hF.next HB4.out)
  have Hb := hide (show b1 < b3 ∧ b2 < b3 ∧ b3 < w4.heap.size ∧ bm < b3 ∧ w.heap.size ≤ b2 from ⟨by omega, by omega, hv4.lt, by have := hF.vb.lt; omega, by omega⟩)
  have c1 := HF.out.cellN
  have n1 := hF.n1
  have n6 := hF.n6
  have Hw := hide (show w.heap.size ≤ b3 by omega)
  have Hx := hide hx
  have Hlt := hide hlt
  clear hv1 hv2 ho4 hbw1 hbw2 hbw3 hb1 hb2 hb3 hs1 hs2 hs3 g1 g2 g3 g4 g5 hF hx hlt
  have Hv4 := hide hv4
  clear hv4
  go_wp2_with fail
  go_loopw [8, 15] (fun s8 k wr => ∃ i : Nat, i ≤ n ∧ k = .int .i64 i ∧ s8 = .int .u64 (box x P i : Int) ∧ Only w4 wr b3 ∧ Blk wr b3 98 .u64 (ch B64 i (sbx x P i) (fix B64 6 x))) (fun _ k _ => n - (intOf k).toNat)
  case atStart =>
    exact ⟨0, Nat.zero_le _, rfl, by rw [box_zero]; rfl, Only.refl _ _, by rw [ch_zero]; exact Hv4.out⟩
  case round =>
    obtain ⟨i, hi, rfl, rfl, hon, hblk⟩ := hrel
    by_cases hlt : i < n
    · have r1 := fix_cell (w := wr) (hon.vb Hv1.out (by have := Hb.out; omega)) (show i < 6 by omega)
      have r2 := (HF.out.only hon (by have := Hb.out; omega)).cellP (show i < 6 by omega)
      have r3 := ch_cell hblk (show i < 6 by omega)
      have r4 := hblk.frozen i
      have r5 := box_le x P i
      have HN := hide (box_next x P i)
      have HB := hide (sbx_next hblk (by rw [fix_length]; omega))
      have HO := hide hon
      clear hblk hon
      go_wp2_with fail
      go_region
      go_wp2_with fail
      exact ⟨⟨i + 1, by omega, by simp, by rw [HN.out], HO.out.drew.set_ _ _, HB.out⟩, by simp [intOf]; omega⟩
    · obtain rfl : i = n := by omega
      obtain ⟨e1, e2⟩ := sbx_end n6 Hx.out HF.out.lt
      rw [e1] at hblk
      rw [e2]
      obtain ⟨l1, l2⟩ := lowered_val Hx.out HF.out.lt hcy Hlt.out
      have HVS := hide (sb_lt (P := B64 ^ i) Hx.out HF.out.lt)
      have l1 := hide l1
      have l2 := hide l2
      have hV3 := hide (show VB wr b3 98 (ve (sb (B64 ^ i) x P)) from hblk)
      have hV1 := hide (hon.vb Hv1.out (by have := Hb.out; omega))
      have hV2 := hide (hon.vb Hv2.out (by have := Hb.out; omega))
      have hBW := hide (Only.below HB4.out hon Hw.out)
      clear hblk hon
      generalize bo x P = o at *
      by_cases hb : cy < o
      · go_wp2_with (first
          | ((with_reducible refine loadE (o := ⟨some 38, _, _, _, _, _⟩) ?_ (.tmp 4) ?_ ?_ hV1.out ?_); rfl; rfl; rfl)
          | ((with_reducible refine storeE (v' := x) (o := ⟨none, _, _, _, _, _⟩) ?_ (.tmp 6) (.tmp 38) ?_ ?_ ?_ hV2.out ?_); rfl; rfl; rfl; rfl; intro w5 hv5 ho5))
        refine retE rfl rfl hv5 rfl ⟨congrArg (fun z => Ending.returned (vE z)) (l1.out hb), Only.below hBW.out ho5.out (by have := Hb.out; have := Hw.out; omega)⟩
      · go_wp2_with (first
          | ((with_reducible refine loadE (o := ⟨some 39, _, _, _, _, _⟩) ?_ (.tmp 7) ?_ ?_ hV3.out ?_); rfl; rfl; rfl)
          | ((with_reducible refine storeE (v' := sb (B64 ^ i) x P) (o := ⟨none, _, _, _, _, _⟩) ?_ (.tmp 6) (.tmp 39) ?_ ?_ ?_ hV2.out ?_); rfl; rfl; rfl; rfl; intro w5 hv5 ho5))
        refine retE rfl rfl hv5 rfl ⟨congrArg (fun z => Ending.returned (vE z)) (l2.out hb), Only.below hBW.out ho5.out (by have := Hb.out; have := Hw.out; omega)⟩
end Go.Proofs.Ytincemkjdgbnnaa
