/- Walks: package mont: sums and differences. Walks: package mont: Prime, One, Add, Sub, Neg. Walks: package mont: times. Plain: Montgomery's product. Walks: package mont: Mul. -/
import Derived.Test.YtincemkjdgbnnaaFldP
import Derived.Test.YtincemkjdgbnnaaDivP
set_option linter.unusedVariables false
set_option linter.unusedSimpArgs false
namespace Go.Proofs.Ytincemkjdgbnnaa
open Go.RowKit Lm

theorem Try.zeroElem : (Try.prog.info? 98).map (·.zero) = some (some (.agg (ve 0).toArray)) := by kernel_rfl
theorem Try.sizeElem : (Try.prog.info? 98).map (·.size) = some 6 := by kernel_rfl

section
variable {ops : Array Oper} {rest : List Oper} {o : Oper} {a : Act} {w : World} {Q : Exit → Act → World → Prop}
theorem sizeV (x : Nat) : (Try.prog.info? 98).map (·.size) = some (ve x).length := by rw [ve_length]; exact Try.sizeElem
/-- an element gets a block. -/
theorem boxE (hgd : o.guard = none) (x : Operand) (ho : o.op = .box 98 x) {v : Nat} (hx : a.eval x = vE v)
    (h : ∀ w' b, Hid (b = w.heap.size) → VB w' b 98 (ve v) → Hid (Below w.heap.size w w') → Hid (w'.heap.size = b + 1) → wpList Try.prog ops Q rest (a.put o.dst (.pointer (some ⟨b, 0, none⟩))) w') : wpList Try.prog ops Q (o :: rest) a w :=
  wpList_box hgd _ x ho (ve v) hx fun w' b h1 h2 h3 h4 => h w' b (hide h1) h2 (hide h3) (hide h4)
theorem allocE (hgd : o.guard = none) (ho : o.op = .alloc 98)
    (h : ∀ w' b, Hid (b = w.heap.size) → VB w' b 98 (ve 0) → Hid (Below w.heap.size w w') → Hid (w'.heap.size = b + 1) → wpList Try.prog ops Q rest (a.put o.dst (.pointer (some ⟨b, 0, none⟩))) w') : wpList Try.prog ops Q (o :: rest) a w :=
  wpList_alloc hgd _ ho (ve 0) Try.zeroElem fun w' b h1 h2 h3 h4 => h w' b (hide h1) h2 (hide h3) (hide h4)
theorem loadE (hgd : o.guard = none) (x : Operand) (ho : o.op = .load 98 x) {b v : Nat} (hx : a.eval x = .pointer (some ⟨b, 0, none⟩)) (hv : VB w b 98 (ve v))
    (h : wpList Try.prog ops Q rest (a.put o.dst (vE v)) w) : wpList Try.prog ops Q (o :: rest) a w :=
  wpList_loadW hgd _ x ho hx hv Try.underlying98 rfl (sizeV v) h
theorem storeE (hgd : o.guard = none) (x y : Operand) (ho : o.op = .store 98 x y) {b v v' : Nat} (hx : a.eval x = .pointer (some ⟨b, 0, none⟩)) (hy : a.eval y = vE v') (hv : VB w b 98 (ve v))
    (h : ∀ w', VB w' b 98 (ve v') → Hid (Only w w' b) → wpList Try.prog ops Q rest (a.put o.dst undef) w') : wpList Try.prog ops Q (o :: rest) a w :=
  wpList_storeW hgd _ x y ho hx hv (ve v') hy (sizeV v') (ve_one v') (by rw [ve_length, ve_length]) fun w' h1 h2 => h w' h1 (hide h2)
theorem retE {fn : Func} {R : Ending → World → Prop} {p : Tmp} (hr : fn.results = #[.cell p 98]) {b v : Nat} (hp : a.tmps.getD p undef = .pointer (some ⟨b, 0, none⟩))
    (hv : VB w b 98 (ve v)) (hdf : a.defers = []) (hR : R (.returned (vE v)) w) : bodyPost Try.prog fn R .ret a w :=
  bodyPost_cell hr hp hv Try.underlying98 rfl (sizeV v) hdf hR
end

/-- a field's block, and what is known of its numbers. -/
structure FB (w : World) (b P n : Nat) : Prop where
  vb : VB w b 155 (fcells P n)
  n1 : 0 < n
  n6 : n ≤ 6
  lt : P < B64 ^ n
  gt : 1 < P
theorem FB.next {w w' : World} {b P n : Nat} (h : FB w b P n) (hb : Below w.heap.size w w') : FB w' b P n := ⟨h.vb.next hb, h.n1, h.n6, h.lt, h.gt⟩
theorem FB.below {w w' : World} {b P n B : Nat} (h : FB w b P n) (hb : Below B w w') (hg : b < B) : FB w' b P n := ⟨h.vb.below hb hg, h.n1, h.n6, h.lt, h.gt⟩
theorem FB.only {w w' : World} {b b' P n : Nat} (h : FB w b P n) (ho : Only w w' b') (hne : b ≠ b') : FB w' b P n := ⟨ho.vb h.vb hne, h.n1, h.n6, h.lt, h.gt⟩
theorem FB.drew {w : World} {b P n : Nat} (h : FB w b P n) : FB w.drew b P n := ⟨h.vb.drew, h.n1, h.n6, h.lt, h.gt⟩
theorem FB.cellN {w : World} {b P n : Nat} (h : FB w b P n) : w.cell? ⟨b, 6, none⟩ = some (.int .i64 (n : Int)) := (h.vb.cell 6).trans rfl
theorem FB.cellI {w : World} {b P n : Nat} (h : FB w b P n) : w.cell? ⟨b, 7, none⟩ = some (.int .u64 (ninv P : Int)) := (h.vb.cell 7).trans rfl
theorem nums_get {k : IntKind} {l : List Nat} {i : Nat} (h : i < l.length) : (nums k l)[i]? = some (.int k (nth l i : Int)) := by
  unfold nums; rw [List.getElem?_map, List.getElem?_eq_getElem h, nth_of_lt h]; rfl
theorem FB.cellQ {w : World} {b P n i : Nat} (h : FB w b P n) (hi : i < 6) : w.cell? ⟨b, i, none⟩ = some (.int .u64 (nth (fix B64 6 P) i : Int)) := by
  rw [h.vb.cell, fcells, List.getElem?_append_left (by rw [nums_length, fix_length]; exact hi), nums_get (by rw [fix_length]; exact hi)]
theorem FB.rowP {w : World} {b P n : Nat} (h : FB w b P n) : RowN w .u64 b 0 (fix B64 6 P) := fun i hi => by
  rw [fix_length] at hi; rw [Nat.zero_add]; exact h.cellQ hi

theorem fix_take {k i x : Nat} (h : i ≤ k) : (fix B64 k x).take i = fix B64 i x := by
  apply List.ext_getElem
  · rw [List.length_take, fix_length, fix_length]; exact Nat.min_eq_left h
  · intro j h1 h2
    rw [← nth_of_lt h1, ← nth_of_lt h2]
    rw [fix_length] at h2
    rw [nth_take h2, nth_fix (by omega), nth_fix h2]
theorem ch_fix {k n v x : Nat} (hn : n ≤ k) (hx : x < B64 ^ n) (hv : v < B64 ^ n) : ch B64 n v (fix B64 k x) = fix B64 k v := by
  apply List.ext_getElem
  · rw [ch_length (by rw [fix_length]; exact hn), fix_length, fix_length]
  · intro j h1 h2
    rw [← nth_of_lt h1, ← nth_of_lt h2]
    rw [fix_length] at h2
    rcases Nat.lt_or_ge j n with h | h
    · rw [ch, nth_append_left (by rw [fix_length]; exact h), nth_fix h, nth_fix h2]
    · have hp := Nat.pow_le_pow_right (n := B64) B64_pos h
      rw [nth_ch h, nth_fix h2, nth_fix h2, Nat.div_eq_of_lt (by omega), Nat.div_eq_of_lt (by omega)]
theorem vt_fix {k i x : Nat} (h : i ≤ k) : val B64 ((fix B64 k x).take i) = x % B64 ^ i := by rw [fix_take h, val_fix]

/-- the digits of a number; sums and differences of the lower digits. -/
def dg (x i : Nat) : Nat := x / B64 ^ i % B64
def sbx (x y i : Nat) : Nat := sb (B64 ^ i) (x % B64 ^ i) (y % B64 ^ i)
def box (x y i : Nat) : Nat := bo (x % B64 ^ i) (y % B64 ^ i)
def adx (x y i : Nat) : Nat := (x % B64 ^ i + y % B64 ^ i) % B64 ^ i
def cyx (x y i : Nat) : Nat := (x % B64 ^ i + y % B64 ^ i) / B64 ^ i
theorem dg_lt (x i : Nat) : dg x i < B64 := Nat.mod_lt _ B64_pos
theorem nth_fix6 {x i : Nat} (h : i < 6) : nth (fix B64 6 x) i = dg x i := nth_fix h
theorem mod_next (x i : Nat) : x % B64 ^ (i + 1) = x % B64 ^ i + B64 ^ i * dg x i := by rw [Nat.pow_succ, Nat.mod_mul]; rfl
theorem pw_pos (i : Nat) : 0 < B64 ^ i := Nat.pow_pos B64_pos
theorem box_zero (x y : Nat) : box x y 0 = 0 := by simp [box, bo, Nat.mod_one]
theorem cyx_zero (x y : Nat) : cyx x y 0 = 0 := by simp [cyx, Nat.mod_one]
theorem box_le (x y i : Nat) : box x y i ≤ 1 := bo_le _ _
theorem cyx_le (x y i : Nat) : cyx x y i ≤ 1 := by
  have h1 := Nat.mod_lt x (pw_pos i)
  have h2 := Nat.mod_lt y (pw_pos i)
  have := (Nat.div_lt_iff_lt_mul (pw_pos i)).2 (show x % B64 ^ i + y % B64 ^ i < 2 * B64 ^ i by omega)
  unfold cyx; omega
theorem box_next (x y i : Nat) : bo1 (dg x i) (dg y i) (box x y i) = box x y (i + 1) := by
  unfold box; rw [mod_next, mod_next, bo_step (Nat.mod_lt _ (pw_pos i)) (Nat.mod_lt _ (pw_pos i))]; rfl
theorem cyx_next (x y i : Nat) : cy1 (dg x i) (dg y i) (cyx x y i) = cyx x y (i + 1) := by
  unfold cyx cy1; rw [mod_next, mod_next, show x % B64 ^ i + B64 ^ i * dg x i + (y % B64 ^ i + B64 ^ i * dg y i) = (x % B64 ^ i + y % B64 ^ i) + B64 ^ i * (dg x i + dg y i) by rw [Nat.mul_add]; omega, Nat.pow_succ, carry_div (pw_pos i)]
  congr 1; omega
section
variable {w : World} {b i x y : Nat} {t : TypeId} {L : List Nat}
theorem sbx_zero : Blk w b t .u64 (ch B64 0 (sbx x y 0) L) = Blk w b t .u64 L := by rw [ch_zero]
theorem adx_zero : Blk w b t .u64 (ch B64 0 (adx x y 0) L) = Blk w b t .u64 L := by rw [ch_zero]
theorem sbx_next (h : Blk w b t .u64 (ch B64 i (sbx x y i) L)) (hi : i < L.length) :
    Blk (w.setCell ⟨b, i, none⟩ (.int .u64 (df1 (dg x i) (dg y i) (box x y i) : Int))) b t .u64 (ch B64 (i + 1) (sbx x y (i + 1)) L) := by
  have h1 := h.set_ i (E := _) (z := df1 (dg x i) (dg y i) (box x y i)) rfl
  rw [ch_set hi (show sbx x y i < B64 ^ i from sb_lt (Nat.mod_lt _ (pw_pos i)) (Nat.mod_lt _ (pw_pos i))) (df1_lt _ _ _)] at h1
  have e : sbx x y (i + 1) = sbx x y i + B64 ^ i * df1 (dg x i) (dg y i) (box x y i) := by
    unfold sbx; rw [mod_next, mod_next, Nat.pow_succ, sb_step (Nat.mod_lt _ (pw_pos i)) (Nat.mod_lt _ (pw_pos i)) (dg_lt x i) (dg_lt y i)]; rfl
  rw [e]; exact h1
theorem adx_next (h : Blk w b t .u64 (ch B64 i (adx x y i) L)) (hi : i < L.length) :
    Blk (w.setCell ⟨b, i, none⟩ (.int .u64 (ad1 (dg x i) (dg y i) (cyx x y i) : Int))) b t .u64 (ch B64 (i + 1) (adx x y (i + 1)) L) := by
  have h1 := h.set_ i (E := _) (z := ad1 (dg x i) (dg y i) (cyx x y i)) rfl
  rw [ch_set hi (show adx x y i < B64 ^ i from Nat.mod_lt _ (pw_pos i)) (ad1_lt _ _ _)] at h1
  have e : adx x y (i + 1) = adx x y i + B64 ^ i * ad1 (dg x i) (dg y i) (cyx x y i) := by
    unfold adx cyx ad1; rw [mod_next x, mod_next y, show x % B64 ^ i + B64 ^ i * dg x i + (y % B64 ^ i + B64 ^ i * dg y i) = (x % B64 ^ i + y % B64 ^ i) + B64 ^ i * (dg x i + dg y i) by rw [Nat.mul_add]; omega, Nat.pow_succ, carry_mod]
    rw [show dg x i + dg y i + (x % B64 ^ i + y % B64 ^ i) / B64 ^ i = (x % B64 ^ i + y % B64 ^ i) / B64 ^ i + (dg x i + dg y i) by omega]
  rw [e]; exact h1
/-- a place that the chain has not come to yet. -/
theorem ch_cell (h : Blk w b t .u64 (ch B64 i y (fix B64 6 x))) (hi : i < 6) : w.cell? ⟨b, i, none⟩ = some (.int .u64 (dg x i : Int)) := by
  have := h.cell (i := i) (by rw [ch_length (by rw [fix_length]; omega), fix_length]; exact hi)
  rw [nth_ch (Nat.le_refl _), nth_fix6 hi] at this
  exact this
theorem fix_cell (h : VB w b t (ve x)) (hi : i < 6) : w.cell? ⟨b, i, none⟩ = some (.int .u64 (dg x i : Int)) := by
  have := (VB.to_blk h).cell (i := i) (by rw [fix_length]; exact hi)
  rw [nth_fix6 hi] at this
  exact this
end
theorem FB.cellP {w : World} {b P n i : Nat} (h : FB w b P n) (hi : i < 6) : w.cell? ⟨b, i, none⟩ = some (.int .u64 (dg P i : Int)) := by
  have := h.cellQ hi
  rw [nth_fix6 hi] at this
  exact this
theorem sbx_end {x y n : Nat} (hn : n ≤ 6) (hx : x < B64 ^ n) (hy : y < B64 ^ n) : ch B64 n (sbx x y n) (fix B64 6 x) = fix B64 6 (sb (B64 ^ n) x y) ∧ box x y n = bo x y := by
  unfold sbx box
  rw [Nat.mod_eq_of_lt hx, Nat.mod_eq_of_lt hy]
  exact ⟨ch_fix hn hx (sb_lt hx hy), rfl⟩
theorem adx_end {x y n : Nat} (hn : n ≤ 6) (hx : x < B64 ^ n) (hy : y < B64 ^ n) : ch B64 n (adx x y n) (fix B64 6 x) = fix B64 6 ((x + y) % B64 ^ n) ∧ cyx x y n = (x + y) / B64 ^ n := by
  unfold adx cyx
  rw [Nat.mod_eq_of_lt hx, Nat.mod_eq_of_lt hy]
  exact ⟨ch_fix hn hx (Nat.mod_lt _ (pw_pos n)), rfl⟩

theorem lowered_val {x P M c : Nat} (hx : x < M) (hP : P < M) (hc : c ≤ 1) (h : x + c * M < 2 * P) :
    (c < bo x P → x = (x + c * M) % P) ∧ (¬ c < bo x P → sb M x P = (x + c * M) % P) := by
  unfold sb bo
  have hc' : c = 0 ∨ c = 1 := by omega
  rcases hc' with rfl | rfl
  · rw [Nat.zero_mul, Nat.add_zero] at *
    by_cases h1 : x < P
    · rw [if_pos h1, Nat.mod_eq_of_lt h1]; exact ⟨fun _ => rfl, fun h => by omega⟩
    · rw [if_neg h1, Nat.mod_eq_sub_mod (by omega), Nat.mod_eq_of_lt (by omega)]; exact ⟨fun h => by omega, fun _ => by omega⟩
  · rw [Nat.one_mul] at *
    have h1 : x < P := by omega
    rw [if_pos h1, Nat.mod_eq_sub_mod (by omega), Nat.mod_eq_of_lt (by omega)]; exact ⟨fun h => by omega, fun _ => by omega⟩

set_option maxRecDepth 100000 in
set_option maxHeartbeats 1600000 in
theorem lowered_any (bm P n x cy : Nat) (w : World) (hF : FB w bm P n) (hx : x < B64 ^ n) (hcy : cy ≤ 1) (hlt : x + cy * B64 ^ n < 2 * P) :
    Calls Try.prog 120 #[.pointer (some ⟨bm, 0, none⟩), vE x, .int .u64 (cy : Int)] w fun e w' =>
      e = .returned (vE ((x + cy * B64 ^ n) % P)) ∧ Below w.heap.size w w' := by
  go_enter Try.func120, Try.ntmps120
  go_upto_region 2 with (first
    | ((with_reducible refine boxE (o := ⟨some 4, _, _, _, _, _⟩) ?_ (.tmp 1) ?_ (v := x) ?_ ?_); rfl; rfl; rfl; intro w1 b1 hb1 hv1 hbw1 hs1)
    | ((with_reducible refine allocE (o := ⟨some 6, _, _, _, _, _⟩) ?_ ?_ ?_); rfl; rfl; intro w2 b2 hb2 hv2 hbw2 hs2)
    | ((with_reducible refine loadE (o := ⟨some 10, _, _, _, _, _⟩) ?_ (.tmp 4) ?_ ?_ (hv1.next hbw2.out) ?_); rfl; rfl; rfl)
    | ((with_reducible refine allocE (o := ⟨some 7, _, _, _, _, _⟩) ?_ ?_ ?_); rfl; rfl; intro w3 b3 hb3 hv3 hbw3 hs3)
    | ((with_reducible refine storeE (v' := x) (o := ⟨none, _, _, _, _, _⟩) ?_ (.tmp 7) (.tmp 10) ?_ ?_ ?_ hv3 ?_); rfl; rfl; rfl; rfl; intro w4 hv4 ho4))
  obtain ⟨g1, g2, g3, g4, g5⟩ := hide (show _ ∧ _ ∧ _ ∧ _ ∧ _ from ⟨hb1.out, hs1.out, hb2.out, hs2.out, hb3.out⟩) |>.out
  have HB4 := hide (Only.below (below_next (below_next hbw1.out hbw2.out) hbw3.out) ho4.out (by omega))
  have Hv1 := hide (ho4.out.vb ((hv1.next hbw2.out).next hbw3.out) (by omega))
  have Hv2 := hide (ho4.out.vb (hv2.next hbw3.out) (by omega))
  have HF := hide (hF.next HB4.out)
  have Hb := hide (show b1 < b3 ∧ b2 < b3 ∧ b3 < w4.heap.size ∧ bm < b3 ∧ w.heap.size ≤ b2 from ⟨by omega, by omega, hv4.lt, by have := hF.vb.lt; omega, by omega⟩)
  have c1 := HF.out.cellN
  have n1 := hF.n1
  have n6 := hF.n6
  have Hw := hide (show w.heap.size ≤ b3 by omega)
  have Hx := hide hx
  have Hlt := hide hlt
  clear hv1 hv2 ho4 hbw1 hbw2 hbw3 hb1 hb2 hb3 hs1 hs2 hs3 g1 g2 g3 g4 g5 hF hx hlt
  have Hv4 := hide hv4
  clear hv4
  go_wp2_with fail
  go_loopw [8, 15] (fun s8 k wr => ∃ i : Nat, i ≤ n ∧ k = .int .i64 i ∧ s8 = .int .u64 (box x P i : Int) ∧ Only w4 wr b3 ∧ Blk wr b3 98 .u64 (ch B64 i (sbx x P i) (fix B64 6 x))) (fun _ k _ => n - (intOf k).toNat)
  case atStart =>
    exact ⟨0, Nat.zero_le _, rfl, by rw [box_zero]; rfl, Only.refl _ _, by rw [ch_zero]; exact Hv4.out⟩
  case round =>
    obtain ⟨i, hi, rfl, rfl, hon, hblk⟩ := hrel
    by_cases hlt : i < n
    · have r1 := fix_cell (w := wr) (hon.vb Hv1.out (by have := Hb.out; omega)) (show i < 6 by omega)
      have r2 := (HF.out.only hon (by have := Hb.out; omega)).cellP (show i < 6 by omega)
      have r3 := ch_cell hblk (show i < 6 by omega)
      have r4 := hblk.frozen i
      have r5 := box_le x P i
      have HN := hide (box_next x P i)
      have HB := hide (sbx_next hblk (by rw [fix_length]; omega))
      have HO := hide hon
      clear hblk hon
      go_wp2_with fail
      go_region
      go_wp2_with fail
      exact ⟨⟨i + 1, by omega, by simp, by rw [HN.out], HO.out.drew.set_ _ _, HB.out⟩, by simp [intOf]; omega⟩
    · obtain rfl : i = n := by omega
      obtain ⟨e1, e2⟩ := sbx_end n6 Hx.out HF.out.lt
      rw [e1] at hblk
      rw [e2]
      obtain ⟨l1, l2⟩ := lowered_val Hx.out HF.out.lt hcy Hlt.out
      have HVS := hide (sb_lt (P := B64 ^ i) Hx.out HF.out.lt)
      have l1 := hide l1
      have l2 := hide l2
      have hV3 := hide (show VB wr b3 98 (ve (sb (B64 ^ i) x P)) from hblk)
      have hV1 := hide (hon.vb Hv1.out (by have := Hb.out; omega))
      have hV2 := hide (hon.vb Hv2.out (by have := Hb.out; omega))
      have hBW := hide (Only.below HB4.out hon Hw.out)
      clear hblk hon
      generalize bo x P = o at *
      by_cases hb : cy < o
      · go_wp2_with (first
          | ((with_reducible refine loadE (o := ⟨some 38, _, _, _, _, _⟩) ?_ (.tmp 4) ?_ ?_ hV1.out ?_); rfl; rfl; rfl)
          | ((with_reducible refine storeE (v' := x) (o := ⟨none, _, _, _, _, _⟩) ?_ (.tmp 6) (.tmp 38) ?_ ?_ ?_ hV2.out ?_); rfl; rfl; rfl; rfl; intro w5 hv5 ho5))
        refine retE rfl rfl hv5 rfl ⟨congrArg (fun z => Ending.returned (vE z)) (l1.out hb), Only.below hBW.out ho5.out (by have := Hb.out; have := Hw.out; omega)⟩
      · go_wp2_with (first
          | ((with_reducible refine loadE (o := ⟨some 39, _, _, _, _, _⟩) ?_ (.tmp 7) ?_ ?_ hV3.out ?_); rfl; rfl; rfl)
          | ((with_reducible refine storeE (v' := sb (B64 ^ i) x P) (o := ⟨none, _, _, _, _, _⟩) ?_ (.tmp 6) (.tmp 39) ?_ ?_ ?_ hV2.out ?_); rfl; rfl; rfl; rfl; intro w5 hv5 ho5))
        refine retE rfl rfl hv5 rfl ⟨congrArg (fun z => Ending.returned (vE z)) (l2.out hb), Only.below hBW.out ho5.out (by have := Hb.out; have := Hw.out; omega)⟩
end Go.Proofs.Ytincemkjdgbnnaa

set_option linter.unusedVariables false
set_option linter.unusedSimpArgs false
namespace Go.Proofs.Ytincemkjdgbnnaa
open Go.RowKit Lm

/-- w' is w and new blocks, b one of them. -/
structure New (w w' : World) (b : Nat) : Prop where
  lo : w.heap.size ≤ b
  hi : b < w'.heap.size
  bl : Below w.heap.size w w'
theorem New.sz {w w' : World} {b : Nat} (h : New w w' b) : w.heap.size ≤ w'.heap.size := h.bl.size

section
variable {ops : Array Oper} {rest : List Oper} {o : Oper} {a : Act} {w : World} {Q : Exit → Act → World → Prop}
theorem boxN (hgd : o.guard = none) (x : Operand) (ho : o.op = .box 98 x) {v : Nat} (hx : a.eval x = vE v)
    (h : ∀ w' b, VB w' b 98 (ve v) → New w w' b → wpList Try.prog ops Q rest (a.put o.dst (.pointer (some ⟨b, 0, none⟩))) w') : wpList Try.prog ops Q (o :: rest) a w :=
  boxE hgd x ho hx fun w' b h1 h2 h3 h4 => h w' b h2 ⟨by rw [h1.out]; exact Nat.le_refl _, by rw [h4.out]; omega, h3.out⟩
theorem allocN (hgd : o.guard = none) (ho : o.op = .alloc 98)
    (h : ∀ w' b, VB w' b 98 (ve 0) → New w w' b → wpList Try.prog ops Q rest (a.put o.dst (.pointer (some ⟨b, 0, none⟩))) w') : wpList Try.prog ops Q (o :: rest) a w :=
  allocE hgd ho fun w' b h1 h2 h3 h4 => h w' b h2 ⟨by rw [h1.out]; exact Nat.le_refl _, by rw [h4.out]; omega, h3.out⟩
end

theorem fcells_length (P n : Nat) : (fcells P n).length = 20 := by simp [fcells, nums_length, fix_length]
section
variable {ops : Array Oper} {rest : List Oper} {o : Oper} {a : Act} {w : World} {Q : Exit → Act → World → Prop}
/-- a part of a field's block is read: an element. -/
theorem loadF (hgd : o.guard = none) (x : Operand) (ho : o.op = .load 98 x) {b P n : Nat} (hF : FB w b P n) (off : Nat) (hx : a.eval x = .pointer (some ⟨b, off, none⟩)) {v : Nat} (hv : ((fcells P n).drop off).take 6 = ve v) (h20 : off + 6 ≤ 20)
    (h : wpList Try.prog ops Q rest (a.put o.dst (vE v)) w) : wpList Try.prog ops Q (o :: rest) a w :=
  wpList_loadA hgd _ x ho hx hF.vb Try.underlying98 rfl Try.sizeElem (by rw [fcells_length]; exact h20) (by rw [hv]; exact h)
end
theorem part_p (P n : Nat) : ((fcells P n).drop 0).take 6 = ve P := rfl
theorem part_one (P n : Nat) : ((fcells P n).drop 8).take 6 = ve (B64 ^ n % P) := rfl
theorem part_sq (P n : Nat) : ((fcells P n).drop 14).take 6 = ve (B64 ^ (2 * n) % P) := rfl

set_option maxRecDepth 100000 in
theorem mprime_any (bm P n : Nat) (w : World) (hF : FB w bm P n) :
    Calls Try.prog 67 #[.pointer (some ⟨bm, 0, none⟩)] w fun e w' => e = .returned (vE P) ∧ Below w.heap.size w w' := by
  go_enter Try.func67, Try.ntmps67
  have hF := hide hF
  go_wp2_with (first
    | ((with_reducible refine allocN (o := ⟨some 2, _, _, _, _, _⟩) ?_ ?_ ?_); rfl; rfl; intro w1 b1 hv1 hn1)
    | ((with_reducible refine loadF (o := ⟨some 6, _, _, _, _, _⟩) ?_ (.tmp 5) ?_ (hF.out.next hn1.bl) 0 ?_ (part_p P n) ?_ ?_); rfl; rfl; rfl; exact (by decide : 0 + 6 ≤ 20))
    | ((with_reducible refine storeE (v' := P) (o := ⟨none, _, _, _, _, _⟩) ?_ (.tmp 2) (.tmp 6) ?_ ?_ ?_ hv1 ?_); rfl; rfl; rfl; rfl; intro w2 hv2 ho2))
  exact retE rfl rfl hv2 rfl ⟨rfl, Only.below hn1.bl ho2.out hn1.lo⟩

set_option maxRecDepth 100000 in
theorem mone_any (bm P n : Nat) (w : World) (hF : FB w bm P n) :
    Calls Try.prog 144 #[.pointer (some ⟨bm, 0, none⟩)] w fun e w' => e = .returned (vE (B64 ^ n % P)) ∧ Below w.heap.size w w' := by
  go_enter Try.func144, Try.ntmps144
  have hF := hide hF
  go_wp2_with (first
    | ((with_reducible refine allocN (o := ⟨some 2, _, _, _, _, _⟩) ?_ ?_ ?_); rfl; rfl; intro w1 b1 hv1 hn1)
    | ((with_reducible refine loadF (o := ⟨some 6, _, _, _, _, _⟩) ?_ (.tmp 5) ?_ (hF.out.next hn1.bl) 8 ?_ (part_one P n) ?_ ?_); rfl; rfl; rfl; exact (by decide : 8 + 6 ≤ 20))
    | ((with_reducible refine storeE (v' := B64 ^ n % P) (o := ⟨none, _, _, _, _, _⟩) ?_ (.tmp 2) (.tmp 6) ?_ ?_ ?_ hv1 ?_); rfl; rfl; rfl; rfl; intro w2 hv2 ho2))
  exact retE rfl rfl hv2 rfl ⟨rfl, Only.below hn1.bl ho2.out hn1.lo⟩

set_option maxRecDepth 100000 in
set_option maxHeartbeats 1600000 in
theorem madd_any (bm P n x y : Nat) (w : World) (hF : FB w bm P n) (hx : x < P) (hy : y < P) :
    Calls Try.prog 75 #[.pointer (some ⟨bm, 0, none⟩), vE x, vE y] w fun e w' => e = .returned (vE ((x + y) % P)) ∧ Below w.heap.size w w' := by
  go_enter Try.func75, Try.ntmps75
  go_upto_region 1 with (first
    | ((with_reducible refine boxN (o := ⟨some 4, _, _, _, _, _⟩) ?_ (.tmp 1) ?_ (v := x) ?_ ?_); rfl; rfl; rfl; intro w1 b1 hv1 hn1)
    | ((with_reducible refine boxN (o := ⟨some 5, _, _, _, _, _⟩) ?_ (.tmp 2) ?_ (v := y) ?_ ?_); rfl; rfl; rfl; intro w2 b2 hv2 hn2)
    | ((with_reducible refine allocN (o := ⟨some 6, _, _, _, _, _⟩) ?_ ?_ ?_); rfl; rfl; intro w3 b3 hv3 hn3))
  have HB := hide (below_next (below_next hn1.bl hn2.bl) hn3.bl)
  have Hb := hide (show w.heap.size ≤ b1 ∧ b1 < b2 ∧ b2 < b3 ∧ b3 < w3.heap.size ∧ bm < b1 from
    ⟨hn1.lo, Nat.lt_of_lt_of_le hn1.hi hn2.lo, Nat.lt_of_lt_of_le hn2.hi hn3.lo, hn3.hi, Nat.lt_of_lt_of_le hF.vb.lt hn1.lo⟩)
  have Hv1 := hide ((hv1.next hn2.bl).next hn3.bl)
  have Hv2 := hide (hv2.next hn3.bl)
  have Hv3 := hide hv3
  have HF := hide (hF.next HB.out)
  have c1 := HF.out.cellN
  have n1 := hF.n1
  have n6 := hF.n6
  have Hx := hide (show x < P ∧ y < P ∧ x < B64 ^ n ∧ y < B64 ^ n from ⟨hx, hy, Nat.lt_trans hx hF.lt, Nat.lt_trans hy hF.lt⟩)
  clear hv1 hv2 hv3 hn1 hn2 hn3 hF hx hy
  go_wp2_with fail
  go_loopw [7, 13] (fun s k wr => ∃ i : Nat, i ≤ n ∧ k = .int .i64 i ∧ s = .int .u64 (cyx x y i : Int) ∧ Only w3 wr b1 ∧ Blk wr b1 98 .u64 (ch B64 i (adx x y i) (fix B64 6 x))) (fun _ k _ => n - (intOf k).toNat)
  case atStart =>
    exact ⟨0, Nat.zero_le _, rfl, by rw [cyx_zero]; rfl, Only.refl _ _, by rw [ch_zero]; exact Hv1.out⟩
  case round =>
    obtain ⟨i, hi, rfl, rfl, hon, hblk⟩ := hrel
    by_cases hlt : i < n
    · have r1 := fix_cell (w := wr) (hon.vb Hv2.out (by have := Hb.out; omega)) (show i < 6 by omega)
      have r3 := ch_cell hblk (show i < 6 by omega)
      have r4 := hblk.frozen i
      have r5 := cyx_le x y i
      have HN := hide (cyx_next x y i)
      have HB := hide (adx_next hblk (by rw [fix_length]; omega))
      have HO := hide hon
      clear hblk hon
      go_wp2_with fail
      go_region
      go_wp2_with fail
      exact ⟨⟨i + 1, by omega, by simp, by rw [HN.out], HO.out.drew.set_ _ _, HB.out⟩, by simp [intOf]; omega⟩
    · obtain rfl : i = n := by omega
      obtain ⟨h1, h2, h3, h4⟩ := Hx.out
      obtain ⟨e1, e2⟩ := adx_end n6 h3 h4
      rw [e1] at hblk
      rw [e2]
      have hlow := lowered_any bm P i ((x + y) % B64 ^ i) ((x + y) / B64 ^ i) wr (HF.out.only hon (by have := Hb.out; omega)) (Nat.mod_lt _ (pw_pos i)) (by rw [← e2]; exact cyx_le x y i)
        (by rw [Nat.mul_comm, Nat.mod_add_div]; omega)
      rw [Nat.mul_comm ((x + y) / B64 ^ i), Nat.mod_add_div] at hlow
      have hlow := hide hlow
      have hV1 := hide (show VB wr b1 98 (ve ((x + y) % B64 ^ i)) from hblk)
      have hV3 := hide (hon.vb Hv3.out (by have := Hb.out; omega))
      have hBW := hide (Only.below HB.out hon Hb.out.1)
      clear hblk hon e1 e2 h1 h2 h3 h4
      generalize (x + y) % B64 ^ i = lo at *
      generalize (x + y) / B64 ^ i = hi2 at *
      go_wp2_with (first
          | ((with_reducible refine loadE (o := ⟨some 31, _, _, _, _, _⟩) ?_ (.tmp 4) ?_ ?_ hV1.out ?_); rfl; rfl; rfl)
          | (go_at_call 120; refine hlow.out.mono ?_; rintro e w5 ⟨rfl, hb5⟩; replace hb5 := hide hb5)
          | ((with_reducible refine storeE (v' := (x + y) % P) (o := ⟨none, _, _, _, _, _⟩) ?_ (.tmp 6) (.tmp 33) ?_ ?_ ?_ (hV3.out.next hb5.out) ?_); rfl; rfl; rfl; rfl; intro w6 hv6 ho6))
      refine retE rfl rfl hv6 rfl ⟨rfl, Only.below (below_next hBW.out hb5.out) ho6.out (by have := Hb.out; omega)⟩

theorem msub_val {x y P M : Nat} (hx : x < P) (hy : y < P) (hP : P < M) :
    (bo x y = 1 → (sb M x y + P) % M = (x + P - y) % P) ∧ (bo x y = 0 → sb M x y = (x + P - y) % P) := by
  unfold sb bo
  by_cases h : x < y
  · rw [if_pos h, Nat.one_mul]
    refine ⟨fun _ => ?_, fun h => by omega⟩
    rw [show x + M - y + P = (x + P - y) + M by omega, Nat.add_mod_right, Nat.mod_eq_of_lt (by omega), Nat.mod_eq_of_lt (by omega)]
  · rw [if_neg h, Nat.zero_mul]
    refine ⟨fun h => by omega, fun _ => ?_⟩
    rw [show x + P - y = (x + 0 - y) + P by omega, Nat.add_mod_right, Nat.mod_eq_of_lt (by omega)]

set_option maxRecDepth 100000 in
set_option maxHeartbeats 1600000 in
theorem msub_any (bm P n x y : Nat) (w : World) (hF : FB w bm P n) (hx : x < P) (hy : y < P) :
    Calls Try.prog 77 #[.pointer (some ⟨bm, 0, none⟩), vE x, vE y] w fun e w' => e = .returned (vE ((x + P - y) % P)) ∧ Below w.heap.size w w' := by
  go_enter Try.func77, Try.ntmps77
  go_upto_region 1 with (first
    | ((with_reducible refine boxN (o := ⟨some 4, _, _, _, _, _⟩) ?_ (.tmp 1) ?_ (v := x) ?_ ?_); rfl; rfl; rfl; intro w1 b1 hv1 hn1)
    | ((with_reducible refine boxN (o := ⟨some 5, _, _, _, _, _⟩) ?_ (.tmp 2) ?_ (v := y) ?_ ?_); rfl; rfl; rfl; intro w2 b2 hv2 hn2)
    | ((with_reducible refine allocN (o := ⟨some 6, _, _, _, _, _⟩) ?_ ?_ ?_); rfl; rfl; intro w3 b3 hv3 hn3))
  have HB := hide (below_next (below_next hn1.bl hn2.bl) hn3.bl)
  have Hb := hide (show w.heap.size ≤ b1 ∧ b1 < b2 ∧ b2 < b3 ∧ b3 < w3.heap.size ∧ bm < b1 from
    ⟨hn1.lo, Nat.lt_of_lt_of_le hn1.hi hn2.lo, Nat.lt_of_lt_of_le hn2.hi hn3.lo, hn3.hi, Nat.lt_of_lt_of_le hF.vb.lt hn1.lo⟩)
  have Hv1 := hide ((hv1.next hn2.bl).next hn3.bl)
  have Hv2 := hide (hv2.next hn3.bl)
  have Hv3 := hide hv3
  have HF := hide (hF.next HB.out)
  have c1 := HF.out.cellN
  have n1 := hF.n1
  have n6 := hF.n6
  have Hx := hide (show x < P ∧ y < P ∧ x < B64 ^ n ∧ y < B64 ^ n from ⟨hx, hy, Nat.lt_trans hx hF.lt, Nat.lt_trans hy hF.lt⟩)
  clear hv1 hv2 hv3 hn1 hn2 hn3 hF hx hy
  go_wp2_with fail
  go_loopw [7, 15] (fun s k wr => ∃ i : Nat, i ≤ n ∧ k = .int .i64 i ∧ s = .int .u64 (box x y i : Int) ∧ Only w3 wr b1 ∧ Blk wr b1 98 .u64 (ch B64 i (sbx x y i) (fix B64 6 x))) (fun _ k _ => n - (intOf k).toNat)
  case atStart =>
    exact ⟨0, Nat.zero_le _, rfl, by rw [box_zero]; rfl, Only.refl _ _, by rw [ch_zero]; exact Hv1.out⟩
  case round =>
    obtain ⟨i, hi, rfl, rfl, hon, hblk⟩ := hrel
    by_cases hlt : i < n
    · have r1 := fix_cell (w := wr) (hon.vb Hv2.out (by have := Hb.out; omega)) (show i < 6 by omega)
      have r3 := ch_cell hblk (show i < 6 by omega)
      have r4 := hblk.frozen i
      have r5 := box_le x y i
      have HN := hide (box_next x y i)
      have HB := hide (sbx_next hblk (by rw [fix_length]; omega))
      have HO := hide hon
      clear hblk hon
      go_wp2_with fail
      go_region
      go_wp2_with fail
      exact ⟨⟨i + 1, by omega, by simp, by rw [HN.out], HO.out.drew.set_ _ _, HB.out⟩, by simp [intOf]; omega⟩
    · obtain rfl : i = n := by omega
      obtain ⟨h1, h2, h3, h4⟩ := Hx.out
      obtain ⟨e1, e2⟩ := sbx_end n6 h3 h4
      rw [e1] at hblk
      rw [e2]
      obtain ⟨m1, m2⟩ := msub_val h1 h2 HF.out.lt
      have m1 := hide m1
      have m2 := hide m2
      have hbo := bo_le x y
      have hsb := hide (sb_lt (P := B64 ^ i) h3 h4)
      have hF := HF.out.only hon (by have := Hb.out; omega)
      have hV1 := hide (show VB wr b1 98 (ve (sb (B64 ^ i) x y)) from hblk)
      have hV3 := hide (hon.vb Hv3.out (by have := Hb.out; omega))
      have hBW := hide (Only.below HB.out hon Hb.out.1)
      have c1 := hF.cellN
      have HF := hide hF
      clear hblk hon e1 e2 h1 h2 h3 h4 hF
      generalize bo x y = o at *
      generalize sb (B64 ^ i) x y = s0 at *
      have ho : o = 0 ∨ o = 1 := by omega
      rcases ho with rfl | rfl
      · go_wp2_with (first
          | ((with_reducible refine loadE (o := ⟨some 58, _, _, _, _, _⟩) ?_ (.tmp 4) ?_ ?_ hV1.out ?_); rfl; rfl; rfl)
          | ((with_reducible refine storeE (v' := s0) (o := ⟨none, _, _, _, _, _⟩) ?_ (.tmp 6) (.tmp 58) ?_ ?_ ?_ hV3.out ?_); rfl; rfl; rfl; rfl; intro w6 hv6 ho6))
        exact retE rfl rfl hv6 rfl ⟨congrArg (fun z => Ending.returned (vE z)) (m2.out (by trivial)), Only.below hBW.out ho6.out (by have := Hb.out; omega)⟩
      · go_wp2_with fail
        go_loopw [9, 38] (fun s k wq => ∃ j : Nat, j ≤ i ∧ k = .int .i64 j ∧ s = .int .u64 (cyx s0 P j : Int) ∧ Only wr wq b1 ∧ Blk wq b1 98 .u64 (ch B64 j (adx s0 P j) (fix B64 6 s0))) (fun _ k _ => i - (intOf k).toNat)
        case atStart =>
          exact ⟨0, Nat.zero_le _, rfl, by rw [cyx_zero]; rfl, Only.refl _ _, by rw [ch_zero]; exact hV1.out⟩
        case round =>
          obtain ⟨j, hj, rfl, rfl, hon, hblk⟩ := hrel
          by_cases hlt : j < i
          · have r1 := (HF.out.only hon (by have := Hb.out; omega)).cellP (show j < 6 by omega)
            have r3 := ch_cell hblk (show j < 6 by omega)
            have r4 := hblk.frozen j
            have r5 := cyx_le s0 P j
            have HN := hide (cyx_next s0 P j)
            have HB := hide (adx_next hblk (by rw [fix_length]; omega))
            have HO := hide hon
            clear hblk hon
            go_wp2_with fail
            go_region
            go_wp2_with fail
            exact ⟨⟨j + 1, by omega, by simp, by rw [HN.out], HO.out.drew.set_ _ _, HB.out⟩, by simp [intOf]; omega⟩
          · obtain rfl : j = i := by omega
            obtain ⟨e1, e2⟩ := adx_end n6 hsb.out HF.out.lt
            rw [e1] at hblk
            have hVq := hide (show VB wr b1 98 (ve ((s0 + P) % B64 ^ j)) from hblk)
            have hV3 := hide (hon.vb hV3.out (by have := Hb.out; omega))
            have hBW := hide (Only.below hBW.out hon Hb.out.1)
            clear hblk hon
            go_wp2_with (first
              | ((with_reducible refine loadE (o := ⟨some 58, _, _, _, _, _⟩) ?_ (.tmp 4) ?_ ?_ hVq.out ?_); rfl; rfl; rfl)
              | ((with_reducible refine storeE (v' := (s0 + P) % B64 ^ j) (o := ⟨none, _, _, _, _, _⟩) ?_ (.tmp 6) (.tmp 58) ?_ ?_ ?_ hV3.out ?_); rfl; rfl; rfl; rfl; intro w6 hv6 ho6))
            exact retE rfl rfl hv6 rfl ⟨congrArg (fun z => Ending.returned (vE z)) (m1.out (by trivial)), Only.below hBW.out ho6.out (by have := Hb.out; omega)⟩

set_option maxRecDepth 100000 in
theorem mneg_any (bm P n y : Nat) (w : World) (hF : FB w bm P n) (hy : y < P) :
    Calls Try.prog 135 #[.pointer (some ⟨bm, 0, none⟩), vE y] w fun e w' => e = .returned (vE ((P - y) % P)) ∧ Below w.heap.size w w' := by
  go_enter Try.func135, Try.ntmps135
  have hF := hide hF
  go_wp2_with (first
    | ((with_reducible refine boxN (o := ⟨some 3, _, _, _, _, _⟩) ?_ (.tmp 1) ?_ (v := y) ?_ ?_); rfl; rfl; rfl; intro w1 b1 hv1 hn1)
    | ((with_reducible refine allocN (o := ⟨some 4, _, _, _, _, _⟩) ?_ ?_ ?_); rfl; rfl; intro w3 b3 hv3 hn3)
    | ((with_reducible refine loadE (o := ⟨some 7, _, _, _, _, _⟩) ?_ (.tmp 3) ?_ ?_ (hv1.next hn3.bl) ?_); rfl; rfl; rfl)
    | (go_at_call 77; have h0 := msub_any bm P n 0 y w3 ((hF.out.next hn1.bl).next hn3.bl) (by have := hF.out.gt; omega) hy; rw [Nat.zero_add] at h0; refine h0.mono ?_; rintro e w4 ⟨rfl, hb4⟩; replace hb4 := hide hb4; clear h0)
    | ((with_reducible refine storeE (v' := (P - y) % P) (o := ⟨none, _, _, _, _, _⟩) ?_ (.tmp 4) (.tmp 8) ?_ ?_ ?_ (hv3.next hb4.out) ?_); rfl; rfl; rfl; rfl; intro w6 hv6 ho6))
  exact retE rfl rfl hv6 rfl ⟨rfl, Only.below (below_next (below_next hn1.bl hn3.bl) hb4.out) ho6.out (by have := hn1.sz; have := hn3.lo; omega)⟩
end Go.Proofs.Ytincemkjdgbnnaa

set_option linter.unusedVariables false
set_option linter.unusedSimpArgs false
namespace Go.Proofs.Ytincemkjdgbnnaa
open Go.RowKit Lm

theorem madd_digit {x y s k : Nat} (hx : x < B64) (hy : y < B64) (hs : s < B64) (hk : k < B64) :
    mh1 x y + cy1 (ml1 x y) s 0 < B64 ∧ ad1 (ad1 (ml1 x y) s 0) k 0 = (k + (s + x * y)) % B64 ∧
    mh1 x y + cy1 (ml1 x y) s 0 + cy1 (ad1 (ml1 x y) s 0) k 0 = (k + (s + x * y)) / B64 ∧ (k + (s + x * y)) / B64 < B64 := by
  have h1 : x * y ≤ (B64 - 1) * (B64 - 1) := Nat.mul_le_mul (by omega) (by omega)
  have h2 : (B64 - 1) * (B64 - 1) + (B64 - 1) + (B64 - 1) < B64 * B64 := by decide
  have h3 : (k + (s + x * y)) / B64 < B64 := (Nat.div_lt_iff_lt_mul B64_pos).2 (by omega)
  unfold ad1 ml1 mh1 cy1
  generalize x * y = p at *
  simp only [Nat.add_zero]
  have e1 : p / B64 + (p % B64 + s) / B64 = (p + s) / B64 := by
    have := Nat.div_add_mod p B64
    conv => rhs; rw [← this, Nat.add_assoc, Nat.mul_add_div B64_pos]
  have e2 : (p % B64 + s) % B64 = (p + s) % B64 := Nat.mod_add_mod _ _ _
  have e3 : (p + s) / B64 + ((p + s) % B64 + k) / B64 = (k + (s + p)) / B64 := by
    have := Nat.div_add_mod (p + s) B64
    conv => rhs; rw [show k + (s + p) = (p + s) + k by omega, ← this, Nat.add_assoc, Nat.mul_add_div B64_pos]
  rw [e1, e2, e3, Nat.mod_add_mod]
  refine ⟨?_, by congr 1; omega, rfl, h3⟩
  exact (Nat.div_lt_iff_lt_mul B64_pos).2 (by omega)

theorem tm_carry {x S V i : Nat} (hx : x < B64) (hS : S < B64 ^ i) (hV : V < B64 ^ i) : (S + x * V) / B64 ^ i < B64 := by
  rw [Nat.div_lt_iff_lt_mul (pw_pos i)]
  have h1 : x * V ≤ (B64 - 1) * V := Nat.mul_le_mul_right _ (by omega)
  have h2 : (B64 - 1) * V ≤ (B64 - 1) * (B64 ^ i - 1) := Nat.mul_le_mul_left _ (by omega)
  have h3 : (B64 - 1) * (B64 ^ i - 1) + (B64 - 1) = (B64 - 1) * B64 ^ i := by
    rw [← Nat.mul_succ]; congr 1; have := pw_pos i; omega
  have h4 : (B64 - 1) * B64 ^ i + B64 ^ i = B64 * B64 ^ i := by rw [← Nat.succ_mul]; rfl
  have h5 : 0 < B64 - 1 := by decide
  omega

set_option maxRecDepth 100000 in
set_option maxHeartbeats 3200000 in
theorem times_any (x bv ov lv c' br off lr c : Nat) (tu : TypeId) (M L : List Nat) (w : World) (hx : x < B64) (hM : RowN w .u64 bv ov M) (hokM : Ok B64 M) (hlv : M.length = lv) (hL : Blk w br tu .u64 L) (hokL : Ok B64 L)
    (hfit : off + M.length ≤ L.length) (hlr : M.length ≤ lr) (hc : lr ≤ c) (hne : bv ≠ br) (hlim : M.length < lim) :
    Calls Try.prog 118 #[.int .u64 (x : Int), .slice (some ⟨bv, ov, none⟩) lv c', .slice (some ⟨br, off, none⟩) lr c] w fun e w' =>
      e = .returned (.int .u64 (((val B64 ((L.drop off).take lv) + x * val B64 M) / B64 ^ lv : Nat) : Int)) ∧
      Blk w' br tu .u64 (mid off (fix B64 lv ((val B64 ((L.drop off).take lv) + x * val B64 M) % B64 ^ lv)) L) ∧ Only w w' br := by
  subst hlv
  unfold lim at hlim
  obtain ⟨Lu, hLu⟩ : ∃ X, X = (L.drop off).take M.length := ⟨_, rfl⟩
  have hLul : Lu.length = M.length := by rw [hLu]; simp; omega
  have hokU : Ok B64 Lu := by rw [hLu]; exact (hokL.drop _).take _
  have hmid : mid off Lu L = L := by rw [hLu]; exact mid_self hfit
  rw [← hLu]
  obtain ⟨m, hm⟩ : ∃ m, m = M.length := ⟨_, rfl⟩
  rw [← hm] at hfit hlr hlim hLul ⊢
  have HL := hide hL
  have HM := hide hM
  have HMl := hide hm.symm
  have HLul := hide hLul
  have Hmid := hide hmid
  clear hLu hL hM hm hLul hmid
  go_enter Try.func118, Try.ntmps118
  go_wp2_with fail
  go_loopw [7, 8, 9, 10, 11, 12, 15] (fun cy _ _ _ _ _ k wr => ∃ i : Nat, i ≤ m ∧ k = .int .i64 i ∧
    cy = .int .u64 (((val B64 (Lu.take i) + x * val B64 (M.take i)) / B64 ^ i : Nat) : Int) ∧ Only w wr br ∧
    Blk wr br tu .u64 (mid off (ch B64 i ((val B64 (Lu.take i) + x * val B64 (M.take i)) % B64 ^ i) Lu) L)) (fun _ _ _ _ _ _ k _ => m - (intOf k).toNat)
  case atStart =>
    exact ⟨0, Nat.zero_le _, rfl, by simp, Only.refl _ _, by rw [ch_zero, Hmid.out]; exact HL.out⟩
  case round =>
    obtain ⟨i, hi, rfl, rfl, hon, hblk⟩ := hrel
    have ha := vt_lt hokU B64_pos i
    have hb := vt_lt hokM B64_pos i
    have hk := tm_carry hx ha hb
    have hTm : (val B64 (Lu.take i) + x * val B64 (M.take i)) % B64 ^ i < B64 ^ i := Nat.mod_lt _ (pw_pos i)
    have hcl : (ch B64 i ((val B64 (Lu.take i) + x * val B64 (M.take i)) % B64 ^ i) Lu).length = m := by rw [ch_length (by rw [HLul.out]; omega), HLul.out]
    by_cases hlt : i < m
    · have hcell := (hon.row HM.out hne) i (by rw [HMl.out]; exact hlt)
      have hs : nth Lu i < B64 := Ok.getD B64_pos hokU _
      have hy : nth M i < B64 := Ok.getD B64_pos hokM _
      have hcell2 := hblk.cell (i := off + i) (by rw [mid_length (by rw [hcl]; exact hfit)]; omega)
      rw [nth_mid (by rw [hcl]; exact hfit) (by rw [hcl]; omega), nth_ch (Nat.le_refl _)] at hcell2
      have hfr := hblk.frozen (off + i)
      obtain ⟨pd0, pd1, pd2, pd3⟩ := madd_digit hx hy hs hk
      have hT : val B64 (Lu.take (i + 1)) + x * val B64 (M.take (i + 1)) = val B64 (Lu.take i) + x * val B64 (M.take i) + B64 ^ i * (nth Lu i + x * nth M i) := by
        rw [vt_succ', vt_succ', Nat.mul_add, Nat.mul_add, Nat.mul_left_comm]; omega
      have HN2 := hide (show ((val B64 (Lu.take i) + x * val B64 (M.take i)) / B64 ^ i + (nth Lu i + x * nth M i)) / B64 = (val B64 (Lu.take (i + 1)) + x * val B64 (M.take (i + 1))) / B64 ^ (i + 1) by rw [hT, Nat.pow_succ, carry_div (pw_pos i)])
      have HB := hide (show Blk (wr.setCell ⟨br, off + i, none⟩ (.int .u64 (ad1 (ad1 (ml1 x (nth M i)) (nth Lu i) 0) ((val B64 (Lu.take i) + x * val B64 (M.take i)) / B64 ^ i) 0 : Int))) br tu .u64
          (mid off (ch B64 (i + 1) ((val B64 (Lu.take (i + 1)) + x * val B64 (M.take (i + 1))) % B64 ^ (i + 1)) Lu) L) by
        have h1 := hblk.set_ (off + i) (E := _) (z := ad1 (ad1 (ml1 x (nth M i)) (nth Lu i) 0) ((val B64 (Lu.take i) + x * val B64 (M.take i)) / B64 ^ i) 0) rfl
        rw [mid_set (by rw [hcl]; exact hfit) (by rw [hcl]; omega), ch_set (by rw [HLul.out]; omega) hTm (ad1_lt _ _ _)] at h1
        rw [hT, Nat.pow_succ, carry_mod, ← pd1]
        exact h1)
      have Hon := hide hon
      have HC := hide (mul64_any x (nth M i) hx hy)
      have ek1 : IntKind.u64.wrap ((mh1 x (nth M i) : Int) + (cy1 (ml1 x (nth M i)) (nth Lu i) 0 : Int)) = ((mh1 x (nth M i) + cy1 (ml1 x (nth M i)) (nth Lu i) 0 : Nat) : Int) := by
        rw [← Int.natCast_add, u64_small _ pd0]
      have ek2 : IntKind.u64.wrap ((mh1 x (nth M i) + cy1 (ml1 x (nth M i)) (nth Lu i) 0 : Nat) + (cy1 (ad1 (ml1 x (nth M i)) (nth Lu i) 0) ((val B64 (Lu.take i) + x * val B64 (M.take i)) / B64 ^ i) 0 : Int)) = ((((val B64 (Lu.take i) + x * val B64 (M.take i)) / B64 ^ i + (nth Lu i + x * nth M i)) / B64 : Nat) : Int) := by
        rw [← pd2, ← Int.natCast_add, u64_small _ (by rw [pd2]; exact pd3)]
      generalize ((val B64 (Lu.take i) + x * val B64 (M.take i)) / B64 ^ i + (nth Lu i + x * nth M i)) / B64 = kk at *
      clear hT pd0 pd1 pd2 pd3 hcl ha hb hblk hon hTm
      generalize (val B64 (Lu.take i) + x * val B64 (M.take i)) / B64 ^ i = k0 at *
      generalize nth Lu i = s at *
      generalize nth M i = y at *
      generalize hl : ml1 x y = ml at *
      generalize hh : mh1 x y = mh at *
      have hl := hide hl
      have hh := hide hh
      generalize hh2 : mh + cy1 ml s 0 = mh2 at *
      have hh2 := hide hh2
      go_wp2_with fail
      refine (HC.out _).mono ?_
      rintro e w' ⟨rfl, rfl⟩
      go_wp2_with fail
      exact ⟨⟨i + 1, by omega, by simp, by rw [HN2.out], Hon.out.set_ _ _, HB.out⟩, by simp [intOf]; omega⟩
    · obtain rfl : i = m := by omega
      rw [ch_full' HLul.out, vt_full M (by rw [HMl.out]; exact Nat.le_refl _), vt_full Lu (by rw [HLul.out]; exact Nat.le_refl _)] at hblk
      rw [vt_full M (by rw [HMl.out]; exact Nat.le_refl _), vt_full Lu (by rw [HLul.out]; exact Nat.le_refl _)]
      have Hblk := hide hblk
      have Hon := hide hon
      clear hblk hon hTm ha hb hcl hk
      generalize hR : (val B64 Lu + x * val B64 M) / B64 ^ i = R at *
      have hR := hide hR
      go_wp2_with fail
      go_ret
      exact ⟨ret_int (by rw [hR.out]), Hblk.out, Hon.out⟩
end Go.Proofs.Ytincemkjdgbnnaa

set_option linter.unusedVariables false
set_option linter.unusedSimpArgs false
namespace Go.Proofs.Ytincemkjdgbnnaa
open Go.RowKit Lm

/-- what one round adds before the prime's multiple, and behind it. -/
def mq (P u : Nat) : Nat := u % B64 * ninv P % B64
def mT (P a b : Nat) : Nat → Nat
  | 0 => 0
  | i + 1 => (mT P a b i + dg b i * a + mq P (mT P a b i + dg b i * a) * P) / B64
/-- 1 / 2^64 modulo the prime. -/
def binv (P : Nat) : Nat := (ninv P * P + 1) / B64
def InvOk (P : Nat) : Prop := (ninv P * P + 1) % B64 = 0

theorem binv_mul {P : Nat} (h : InvOk P) : B64 * binv P = ninv P * P + 1 := by
  have := Nat.div_add_mod (ninv P * P + 1) B64
  rw [h] at this; exact this
theorem mq_lt (P u : Nat) : mq P u < B64 := Nat.mod_lt _ B64_pos
theorem mq_zero {P : Nat} (h : InvOk P) (u : Nat) : (u + mq P u * P) % B64 = 0 := by
  unfold mq
  have e : (u + u % B64 * ninv P % B64 * P) % B64 = (u * (ninv P * P + 1)) % B64 := by
    rw [Nat.mul_succ, ← Nat.mul_assoc, Nat.add_comm, Nat.add_mod, Nat.mod_mul_mod, Nat.mul_assoc (u % B64), Nat.mod_mul_mod, ← Nat.mul_assoc, ← Nat.add_mod]
  rw [e, Nat.mul_mod, h, Nat.mul_zero, Nat.zero_mod]
theorem mT_mul {P a b i : Nat} (h : InvOk P) : B64 * mT P a b (i + 1) = mT P a b i + dg b i * a + mq P (mT P a b i + dg b i * a) * P := by
  have := Nat.div_add_mod (mT P a b i + dg b i * a + mq P (mT P a b i + dg b i * a) * P) B64
  rw [mq_zero h] at this; exact this
theorem mT_lt {P a b : Nat} (h : InvOk P) (hP : 0 < P) (ha : a < P) : ∀ i, mT P a b i < 2 * P
  | 0 => by unfold mT; omega
  | i + 1 => by
    have h1 := mT_lt (b := b) h hP ha i
    have h2 := mT_mul (a := a) (b := b) (i := i) h
    have h3 : dg b i * a ≤ (B64 - 1) * (P - 1) := Nat.mul_le_mul (by have := dg_lt b i; omega) (by omega)
    have h4 : mq P (mT P a b i + dg b i * a) * P ≤ (B64 - 1) * P := Nat.mul_le_mul_right _ (by have := mq_lt P (mT P a b i + dg b i * a); omega)
    have h5 : (B64 - 1) * (P - 1) + (B64 - 1) = (B64 - 1) * P := by rw [← Nat.mul_succ]; congr 1; omega
    have h6 : (B64 - 1) * P + P = B64 * P := by rw [← Nat.succ_mul]; rfl
    have h7 : 2 ≤ B64 - 1 := by decide
    refine Nat.lt_of_mul_lt_mul_left (a := B64) ?_
    rw [h2, Nat.mul_left_comm]
    omega

theorem modmul (a b m : Nat) : (a % m * b) % m = (a * b) % m := by rw [Nat.mul_mod, Nat.mod_mod, ← Nat.mul_mod]
theorem mulmod (a b m : Nat) : (a * (b % m)) % m = (a * b) % m := by rw [Nat.mul_comm, modmul, Nat.mul_comm]

theorem binv_mod {P : Nat} (h : InvOk P) : B64 * binv P % P = 1 % P := by rw [binv_mul h, Nat.add_comm, Nat.add_mul_mod_self_right]
theorem binv_cancel {P : Nat} (h : InvOk P) (x : Nat) : B64 * x * binv P % P = x % P := by
  rw [Nat.mul_right_comm, ← modmul, binv_mod h, modmul, Nat.one_mul]
theorem binv_pow {P : Nat} (h : InvOk P) : ∀ i x : Nat, x * (B64 ^ i * binv P ^ i) % P = x % P
  | 0, x => by simp
  | i + 1, x => by
    rw [Nat.pow_succ, Nat.pow_succ, show x * (B64 ^ i * B64 * (binv P ^ i * binv P)) = B64 * (x * (B64 ^ i * binv P ^ i)) * binv P by
      simp only [Nat.mul_assoc, Nat.mul_comm, Nat.mul_left_comm], binv_cancel h, binv_pow h i x]
theorem mT_step {P a b i : Nat} (h : InvOk P) : mT P a b (i + 1) % P = (mT P a b i + dg b i * a) * binv P % P := by
  rw [← binv_cancel h (mT P a b (i + 1)), mT_mul h, Nat.add_mul _ (_ * P), Nat.mul_right_comm, Nat.add_mul_mod_self_right]
theorem mT_mod {P a b : Nat} (h : InvOk P) : ∀ i, mT P a b i % P = a * (b % B64 ^ i) * binv P ^ i % P
  | 0 => by simp [mT, Nat.mod_one]
  | i + 1 => by
    rw [mT_step h, ← modmul, Nat.add_mod, mT_mod h i, ← Nat.add_mod, modmul, mod_next, Nat.pow_succ, Nat.add_mul, Nat.mul_add, Nat.add_mul]
    rw [Nat.add_mod, Nat.add_mod (a * (b % B64 ^ i) * (binv P ^ i * binv P))]
    congr 2
    · simp only [Nat.mul_assoc]
    · rw [show a * (B64 ^ i * dg b i) * (binv P ^ i * binv P) = (a * dg b i * binv P) * (B64 ^ i * binv P ^ i) by
        simp only [Nat.mul_assoc, Nat.mul_comm, Nat.mul_left_comm], binv_pow h, Nat.mul_comm (dg b i)]
/-- 1 / R. -/
def rinv (P n : Nat) : Nat := binv P ^ n
theorem mT_end {P a b n : Nat} (h : InvOk P) (hb : b < B64 ^ n) : mT P a b n % P = a * b * rinv P n % P := by
  rw [mT_mod h, Nat.mod_eq_of_lt hb]; rfl

/-! the row -/
def Z13 : List Nat := List.replicate 13 0
theorem Z13_length : Z13.length = 13 := rfl
theorem Z13_ok : Ok B64 Z13 := Ok.replicate B64_pos _
theorem mid_take {i : Nat} {X Z : List Nat} {k : Nat} (h : i + X.length ≤ Z.length) (hk : k ≤ X.length) : ((mid i X Z).drop i).take k = X.take k := by
  unfold mid
  rw [List.drop_append_of_le_length (by rw [List.length_take]; omega), List.drop_of_length_le (by rw [List.length_take]; omega), List.nil_append, List.take_append_of_le_length hk]
theorem mid_ok {i : Nat} {X Z : List Nat} (hX : Ok B64 X) (hZ : Ok B64 Z) : Ok B64 (mid i X Z) := (hZ.take _).append (hX.append (hZ.drop _))
theorem mid_over {i : Nat} {X Y Z : List Nat} (h : i + X.length ≤ Z.length) (hl : Y.length ≤ X.length) : mid i Y (mid i X Z) = mid i (Y ++ X.drop Y.length) Z := by
  apply List.ext_getElem
  · rw [mid_length (by rw [mid_length h]; omega), mid_length h, mid_length (by simp; omega)]
  · intro j h1 h2
    rw [← nth_of_lt h1, ← nth_of_lt h2]
    have hlen : (Y ++ X.drop Y.length).length = X.length := by simp; omega
    rcases Nat.lt_or_ge j i with hj | hj
    · rw [nth_mid_lt (by rw [mid_length h]; omega) hj, nth_mid_lt h hj, nth_mid_lt (by omega) hj]
    · obtain ⟨k, rfl⟩ : ∃ k, j = i + k := ⟨j - i, by omega⟩
      rcases Nat.lt_or_ge k Y.length with hk | hk
      · rw [nth_mid (by rw [mid_length h]; omega) hk, nth_mid (by omega) (by omega), nth_append_left hk]
      · rw [nth_mid_ge (by rw [mid_length h]; omega) hk]
        rcases Nat.lt_or_ge k X.length with hk2 | hk2
        · rw [nth_mid h hk2, nth_mid (by omega) (by omega), nth_append_right hk, nth_drop]; congr 1; omega
        · rw [nth_mid_ge h hk2, nth_mid_ge (by omega) (by omega)]
theorem mid_zero {i : Nat} {X : List Nat} (h : i + 1 + X.length ≤ 13) : mid i (0 :: X) Z13 = mid (i + 1) X Z13 := by
  unfold mid Z13
  rw [List.take_replicate, List.take_replicate, List.drop_replicate, List.drop_replicate, Nat.min_eq_left (by omega), Nat.min_eq_left (by omega), List.length_cons, List.replicate_succ', show i + (X.length + 1) = i + 1 + X.length by omega]
  simp
theorem fix_zero_cons {n v : Nat} (h : v % B64 = 0) : fix B64 (n + 1) v = 0 :: fix B64 n (v / B64) := by rw [fix, h]

theorem row_nth {i n X Y : Nat} (h : i + (n + 1) ≤ 13) : nth (mid i (fix B64 n Y) (mid i (fix B64 (n + 1) X) Z13)) (i + n) = X / B64 ^ n % B64 := by
  have := nth_mid_ge (off := i) (X := fix B64 n Y) (L := mid i (fix B64 (n + 1) X) Z13) (i := n) (by rw [mid_length (by rw [fix_length]; exact h), fix_length]; exact (show i + n ≤ 13 by omega)) (by rw [fix_length]; first | done | exact Nat.le_refl _)
  rw [this, nth_mid (by rw [fix_length]; exact h) (by rw [fix_length]; omega), nth_fix (by omega)]
theorem row_set {i n X Y d : Nat} (h : i + (n + 1) ≤ 13) (hY : Y < B64 ^ n) (hd : d < B64) : (mid i (fix B64 n Y) (mid i (fix B64 (n + 1) X) Z13)).set (i + n) d = mid i (fix B64 (n + 1) (Y + B64 ^ n * d)) Z13 := by
  have hlen : (fix B64 n Y ++ (fix B64 (n + 1) X).drop (fix B64 n Y).length).length = n + 1 := by simp [fix_length]
  rw [mid_over (by rw [fix_length]; exact h) (by rw [fix_length, fix_length]; omega), mid_set (by rw [hlen]; exact h) (by rw [hlen]; omega), fix_succ hY hd,
    List.set_append_right _ _ (by rw [fix_length]; first | done | exact Nat.le_refl _), fix_length, Nat.sub_self]
  congr 2
  have : ((fix B64 (n + 1) X).drop n).length = 1 := by simp [fix_length]
  match hq : (fix B64 (n + 1) X).drop n, this with
  | [u], _ => rfl
theorem row_start (n : Nat) (h : n + 1 ≤ 13) : mid 0 (fix B64 (n + 1) 0) Z13 = Z13 := by
  have e : fix B64 (n + 1) 0 = (Z13.drop 0).take (n + 1) := by
    apply List.ext_getElem
    · simp [fix_length, Z13]; omega
    · intro j h1 h2
      rw [← nth_of_lt h1, nth_fix (by rw [fix_length] at h1; exact h1)]
      rw [← nth_of_lt h2, nth_take (by rw [fix_length] at h1; exact h1), List.drop_zero, Z13, nth_of_lt (by rw [fix_length] at h1; simp; omega), List.getElem_replicate]
      simp
  rw [e]; exact mid_self (by rw [Z13_length]; omega)
end Go.Proofs.Ytincemkjdgbnnaa

set_option linter.unusedVariables false
set_option linter.unusedSimpArgs false
namespace Go.Proofs.Ytincemkjdgbnnaa
open Go.RowKit Lm

theorem Try.zeroRow : (Try.prog.info? 164).map (·.zero) = some (some (.agg (nums .u64 Z13).toArray)) := by kernel_rfl

/-- what a round carries. -/
def tq (n X x V : Nat) : Nat := (X % B64 ^ n + x * V) / B64 ^ n
def ov (n U : Nat) : Nat := U / B64 ^ (n + 1)
/-- what a round does to the row: a multiple of a number is added, and what was carried over. -/
theorem row_round {X x V o n : Nat} (hX : X < B64 ^ (n + 1)) :
    (X % B64 ^ n + x * V) % B64 ^ n + B64 ^ n * ad1 (X / B64 ^ n % B64) (tq n X x V) o = (X + x * V + o * B64 ^ n) % B64 ^ (n + 1) ∧
    cy1 (X / B64 ^ n % B64) (tq n X x V) o = ov n (X + x * V + o * B64 ^ n) := by
  unfold ov
  have h1 : X / B64 ^ n < B64 := (Nat.div_lt_iff_lt_mul (pw_pos n)).2 (by rw [Nat.pow_succ, Nat.mul_comm] at hX; exact hX)
  rw [Nat.mod_eq_of_lt h1]
  have h2 : X + x * V + o * B64 ^ n = (X % B64 ^ n + x * V) + B64 ^ n * (X / B64 ^ n + o) := by
    have := Nat.mod_add_div X (B64 ^ n)
    rw [Nat.mul_add, Nat.mul_comm o]; omega
  rw [h2, Nat.pow_succ, carry_mod, carry_div (pw_pos n)]
  unfold ad1 cy1 tq
  constructor
  · congr 3; omega
  · congr 1; omega

theorem mid_tail0 {i : Nat} {X : List Nat} (h : i + X.length + 1 ≤ 13) : mid i (X ++ [0]) Z13 = mid i X Z13 := by
  unfold mid Z13
  rw [List.drop_replicate, List.drop_replicate, List.length_append, List.length_singleton, List.append_assoc, List.singleton_append, ← List.replicate_succ]
  congr 3; omega
theorem fix_snoc0 {n v : Nat} (h : v < B64 ^ n) : fix B64 (n + 1) v = fix B64 n v ++ [0] := by
  have := fix_succ (B := B64) (d := 0) h B64_pos
  rwa [Nat.mul_zero, Nat.add_zero] at this
/-- the row behind a round. -/
theorem row_next {i n V : Nat} (h : i + 1 + (n + 1) ≤ 13) (h0 : V % B64 = 0) : mid i (fix B64 (n + 1) (V % B64 ^ (n + 1))) Z13 = mid (i + 1) (fix B64 (n + 1) (V / B64 % B64 ^ n)) Z13 := by
  have h1 : V % B64 ^ (n + 1) % B64 = 0 := by rw [Nat.pow_succ, Nat.mod_mul_left_mod, h0]
  have h2 : V % B64 ^ (n + 1) / B64 = V / B64 % B64 ^ n := by rw [Nat.pow_succ, Nat.mul_comm, Nat.mod_mul, h0, Nat.zero_add, Nat.mul_div_cancel_left _ B64_pos]
  rw [fix_zero_cons h1, h2, fix_snoc0 (Nat.mod_lt _ (pw_pos n)), mid_zero (by rw [fix_length]; omega), mid_tail0 (by rw [fix_length]; omega)]

theorem ve_copy {X n : Nat} (hX : X < B64 ^ n) (hn : n ≤ 6) : (ve 0).take 0 ++ (nums .u64 ((fix B64 n X).take n) ++ (ve 0).drop (0 + min (fix B64 n X).length n)) = ve X := by
  have h1 : (ve 0).drop n = nums .u64 ((fix B64 6 0).drop n) := by unfold ve nums; rw [List.map_drop]
  have h2 := ch_fix (k := 6) (n := n) (v := X) (x := 0) hn (pw_pos n) hX
  rw [List.take_zero, List.nil_append, fix_length, Nat.min_self, Nat.zero_add, List.take_of_length_le (by rw [fix_length]; exact Nat.le_refl _), h1]
  unfold ve
  rw [← h2, ch]
  unfold nums
  rw [List.map_append]
/-- 'times' upon the row. -/
theorem times_row (d bv ov c' br i c n X V : Nat) (tu : TypeId) (w : World) (hd : d < B64) (hM : RowN w .u64 bv ov (fix B64 n V)) (hV : V < B64 ^ n) (hblk : Blk w br tu .u64 (mid i (fix B64 (n + 1) X) Z13))
    (hin : i + (n + 1) ≤ 13) (hc : n + 1 ≤ c) (hne : bv ≠ br) (hn : n < lim) :
    Calls Try.prog 118 #[.int .u64 (d : Int), .slice (some ⟨bv, ov, none⟩) n c', .slice (some ⟨br, i, none⟩) (n + 1) c] w fun e w' =>
      e = .returned (.int .u64 (tq n X d V : Int)) ∧
      Blk w' br tu .u64 (mid i (fix B64 n ((X % B64 ^ n + d * V) % B64 ^ n)) (mid i (fix B64 (n + 1) X) Z13)) ∧ Only w w' br := by
  have h := times_any d bv ov n c' br i (n + 1) c tu (fix B64 n V) (mid i (fix B64 (n + 1) X) Z13) w hd hM (fix_ok B64_pos _ _) (fix_length ..) hblk (mid_ok (fix_ok B64_pos _ _) Z13_ok)
    (by rw [fix_length, mid_length (by rw [fix_length]; exact hin)]; exact (show i + n ≤ 13 by omega)) (by rw [fix_length]; omega) hc hne (by rw [fix_length]; exact hn)
  rw [mid_take (by rw [fix_length]; exact hin) (by rw [fix_length]; omega), fix_take (by omega), val_fix, val_fix_of_lt hV] at h
  exact h
theorem row_cell {w : World} {br i n X Y : Nat} {tu : TypeId} (h : Blk w br tu .u64 (mid i (fix B64 n Y) (mid i (fix B64 (n + 1) X) Z13))) (hin : i + (n + 1) ≤ 13) : w.cell? ⟨br, i + n, none⟩ = some (.int .u64 ((X / B64 ^ n % B64 : Nat) : Int)) := by
  have := h.cell (i := i + n) (by rw [mid_length (by rw [mid_length (by rw [fix_length]; exact hin), fix_length]; exact (show i + n ≤ 13 by omega)), mid_length (by rw [fix_length]; exact hin)]; exact (show i + n < 13 by omega))
  rw [row_nth hin] at this
  exact this
theorem row_cell0 {w : World} {br i n X : Nat} {tu : TypeId} (h : Blk w br tu .u64 (mid i (fix B64 (n + 1) X) Z13)) (hin : i + (n + 1) ≤ 13) : w.cell? ⟨br, i, none⟩ = some (.int .u64 ((X % B64 : Nat) : Int)) := by
  have := h.cell (i := i) (by rw [mid_length (by rw [fix_length]; exact hin)]; exact (show i < 13 by omega))
  have e := nth_mid (off := i) (X := fix B64 (n + 1) X) (L := Z13) (i := 0) (by rw [fix_length]; exact hin) (by rw [fix_length]; omega)
  rw [nth_fix (by omega), Nat.pow_zero, Nat.div_one] at e
  rw [show nth (mid i (fix B64 (n + 1) X) Z13) i = X % B64 from e] at this
  exact this
theorem row_put {w : World} {br i n X x V o : Nat} {tu : TypeId} (h : Blk w br tu .u64 (mid i (fix B64 n ((X % B64 ^ n + x * V) % B64 ^ n)) (mid i (fix B64 (n + 1) X) Z13))) (hin : i + (n + 1) ≤ 13) (hX : X < B64 ^ (n + 1)) :
    Blk (w.setCell ⟨br, i + n, none⟩ (.int .u64 (ad1 (X / B64 ^ n % B64) (tq n X x V) o : Int))) br tu .u64 (mid i (fix B64 (n + 1) ((X + x * V + o * B64 ^ n) % B64 ^ (n + 1))) Z13) := by
  have h1 := h.set_ (i + n) (E := _) (z := ad1 (X / B64 ^ n % B64) (tq n X x V) o) rfl
  rw [row_set hin (Nat.mod_lt _ (pw_pos n)) (ad1_lt _ _ _), (row_round hX).1] at h1
  exact h1
theorem fix_row {w : World} {b x n : Nat} {t : TypeId} (h : VB w b t (ve x)) (hn : n ≤ 6) : RowN w .u64 b 0 (fix B64 n x) := by
  have := (VB.to_blk h).row0.take n
  rwa [fix_take hn] at this
theorem FB.rowN {w : World} {b P n : Nat} (h : FB w b P n) : RowN w .u64 b 0 (fix B64 n P) := by
  have := h.rowP.take n
  rwa [fix_take h.n6] at this

set_option maxRecDepth 100000 in
set_option maxHeartbeats 3200000 in
theorem mmul_any (bm P n x y : Nat) (w : World) (hF : FB w bm P n) (hI : InvOk P) (hx : x < P) (hy : y < P) :
    Calls Try.prog 70 #[.pointer (some ⟨bm, 0, none⟩), vE x, vE y] w fun e w' => e = .returned (vE (x * y * rinv P n % P)) ∧ Below w.heap.size w w' := by
  go_enter Try.func70, Try.ntmps70
  go_upto_region 2 with (first
    | ((with_reducible refine boxN (o := ⟨some 4, _, _, _, _, _⟩) ?_ (.tmp 1) ?_ (v := x) ?_ ?_); rfl; rfl; rfl; intro w1 b1 hv1 hn1)
    | ((with_reducible refine boxN (o := ⟨some 5, _, _, _, _, _⟩) ?_ (.tmp 2) ?_ (v := y) ?_ ?_); rfl; rfl; rfl; intro w2 b2 hv2 hn2)
    | ((with_reducible refine allocN (o := ⟨some 6, _, _, _, _, _⟩) ?_ ?_ ?_); rfl; rfl; intro w3 b3 hv3 hn3)
    | ((with_reducible refine wpList_alloc (o := ⟨some 7, _, _, _, _, _⟩) ?_ 164 ?_ (nums .u64 Z13) Try.zeroRow ?_); rfl; rfl; intro w4 b4 h1 hv4 h3 h4; have hn4 : New w3 w4 b4 := ⟨by rw [h1]; exact Nat.le_refl _, by rw [h4]; omega, h3⟩; clear h1 h3 h4))
  have HB := hide (below_next (below_next (below_next hn1.bl hn2.bl) hn3.bl) hn4.bl)
  have Hb := hide (show w.heap.size ≤ b1 ∧ b1 < b2 ∧ b2 < b3 ∧ b3 < b4 ∧ bm < b1 ∧ b4 < w4.heap.size from
    ⟨hn1.lo, Nat.lt_of_lt_of_le hn1.hi hn2.lo, Nat.lt_of_lt_of_le hn2.hi hn3.lo, Nat.lt_of_lt_of_le hn3.hi hn4.lo, Nat.lt_of_lt_of_le hF.vb.lt hn1.lo, hn4.hi⟩)
  have Hv1 := hide (((hv1.next hn2.bl).next hn3.bl).next hn4.bl)
  have Hv2 := hide ((hv2.next hn3.bl).next hn4.bl)
  have Hv3 := hide (hv3.next hn4.bl)
  have Hv4 := hide hv4
  have HF := hide (hF.next HB.out)
  have c1 := HF.out.cellN
  have n1 := hF.n1
  have n6 := hF.n6
  have Hx := hide (show x < P ∧ y < P ∧ x < B64 ^ n ∧ y < B64 ^ n from ⟨hx, hy, Nat.lt_trans hx hF.lt, Nat.lt_trans hy hF.lt⟩)
  have hI := hide hI
  have hP0 : 0 < P := by omega
  clear hv1 hv2 hv3 hv4 hn1 hn2 hn3 hn4 hF hx hy
  go_wp2_with fail
  go_loopw [9, 10, 11, 12, 13, 14, 15, 22] (fun ov _ _ _ _ _ _ k wr => ∃ i : Nat, i ≤ n ∧ k = .int .i64 i ∧ ov = .int .u64 ((mT P x y i / B64 ^ n : Nat) : Int) ∧ Only w4 wr b4 ∧
      Blk wr b4 164 .u64 (mid i (fix B64 (n + 1) (mT P x y i % B64 ^ n)) Z13)) (fun _ _ _ _ _ _ _ k _ => n - (intOf k).toNat)
  case atStart =>
    exact ⟨0, Nat.zero_le _, rfl, by simp [mT], Only.refl _ _, by simp only [mT, Nat.zero_mod]; rw [row_start n (by omega)]; exact Hv4.out⟩
  case round =>
    obtain ⟨i, hi, rfl, rfl, hon, hblk⟩ := hrel
    have hT := mT_lt (b := y) hI.out hP0 Hx.out.1 i
    have hTo : mT P x y i / B64 ^ n ≤ 1 := by
      have := (Nat.div_lt_iff_lt_mul (pw_pos n)).2 (show mT P x y i < 2 * B64 ^ n by have := HF.out.lt; omega)
      omega
    have hTm : mT P x y i % B64 ^ n < B64 ^ n := Nat.mod_lt _ (pw_pos n)
    have hpn : B64 ^ n < B64 ^ (n + 1) := Nat.pow_lt_pow_right (by decide) (by omega)
    by_cases hlt : i < n
    · have i1 := wrap_in ((i : Int) + (n : Int)) (by omega) (by omega)
      have i2 := wrap_in ((i : Int) + (n : Int) + 1) (by omega) (by omega)
      have i3 : (i : Int) ≤ (i : Int) + (n : Int) + 1 := by omega
      have i4 : (i : Int) + (n : Int) + 1 ≤ 13 := by omega
      have i5 : ((i : Int) + (n : Int) + 1).toNat = i + n + 1 := by omega
      have i6 : i + n + 1 - i = n + 1 := by omega
      have i7 : (i : Int) < 6 := by omega
      have i8 : (n : Int) ≤ 6 := by omega
      have r1 := fix_cell (w := wr) (hon.vb Hv2.out (by have := Hb.out; omega)) (show i < 6 by omega)
      have H1 := hide (times_row (dg y i) b1 0 6 b4 i (13 - i) n (mT P x y i % B64 ^ n) x 164 wr.drew (dg_lt y i) (fix_row (hon.vb Hv1.out (by have := Hb.out; omega)).drew n6) Hx.out.2.2.1 hblk.drew (by omega) (by omega) (by have := Hb.out; omega) (by unfold lim; omega))
      have hXU : mT P x y i % B64 ^ n + dg y i * x + mT P x y i / B64 ^ n * B64 ^ n = mT P x y i + dg y i * x := by
        have := Nat.mod_add_div (mT P x y i) (B64 ^ n)
        rw [Nat.mul_comm (_ / _)]; omega
      have HX := hide (show mT P x y i % B64 ^ n < B64 ^ (n + 1) by omega)
      have HXU := hide hXU
      have HO := hide hon.drew
      have HM := hide (mT_step (a := x) (b := y) (i := i) hI.out)
      have hq0 := hide (mq_zero hI.out (mT P x y i + dg y i * x))
      have hq1 := hide (show (mT P x y i + dg y i * x + mq P (mT P x y i + dg y i * x) * P) / B64 = mT P x y (i + 1) from rfl)
      have hT1 := hide (mT_lt (b := y) hI.out hP0 Hx.out.1 (i + 1))
      clear hXU hblk hon hT hTm
      generalize mT P x y i % B64 ^ n = X at *
      generalize mT P x y i / B64 ^ n = o at *
      generalize hU : mT P x y i + dg y i * x = U at *
      generalize dg y i = d at *
      have hU := hide hU
      go_upto_region 8 with fail
      go_region_law (((try go_simp); go_at_call 118; refine H1.out.mono ?_; rintro e w5 ⟨rfl, hb5, ho5⟩; have Hb5 := hide hb5; have Ho5 := hide ho5; clear hb5 ho5))
      have hin : i + (n + 1) ≤ 13 := by omega
      have r2 := row_cell Hb5.out hin
      have r3 := Hb5.out.frozen (i + n)
      have Hp := hide (row_put (o := o) Hb5.out hin HX.out)
      have hcy := hide (row_round (x := d) (V := x) (o := o) HX.out).2
      rw [HXU.out] at Hp hcy
      have i9 : (n : Int) < (n : Int) + 1 := by omega
      generalize tq n X d x = k1 at *
      generalize X / B64 ^ n % B64 = t1 at *
      clear H1
      go_upto_region 10 with fail
      rw [hcy.out]
      have HO6 := hide ((HO.out.trans Ho5.out).set_ (i + n) (.int .u64 (ad1 t1 k1 o : Int)))
      obtain ⟨w6, hw6⟩ : ∃ w6, w6 = w5.setCell ⟨b4, i + n, none⟩ (.int .u64 (ad1 t1 k1 o : Int)) := ⟨_, rfl⟩
      rw [← hw6] at Hp HO6 ⊢
      clear hw6 r1 r2 r3 hcy Hb5 Ho5 HO c1
      have r4 := row_cell0 Hp.out hin
      have hF6 := HF.out.only HO6.out (by have := Hb.out; omega)
      have r5 := hF6.cellI
      have hm : U % B64 ^ (n + 1) % B64 = U % B64 := by rw [Nat.pow_succ, Nat.mod_mul_left_mod]
      rw [hm] at r4
      have r6 : IntKind.u64.wrap (((U % B64 : Nat) : Int) * ((ninv P : Nat) : Int)) = (mq P U : Int) := by
        rw [← Int.natCast_mul, IntKind.wrap_u64, mq, B64_eq]; omega
      have H2 := hide (times_row (mq P U) bm 0 6 b4 i (13 - i) n (U % B64 ^ (n + 1)) P 164 w6.drew (mq_lt P U) hF6.drew.rowN HF.out.lt Hp.out.drew (by omega) (by omega) (by have := Hb.out; omega) (by unfold lim; omega))
      have HU := hide (show U % B64 ^ (n + 1) < B64 ^ (n + 1) from Nat.mod_lt _ (pw_pos _))
      clear hm hF6
      have hmq := hide (show mq P U = mq P U from rfl)
      generalize U % B64 = u0 at *
      go_upto_region 10 with fail
      go_cut [15] (fun s wx => s = .int .u64 (tq n (U % B64 ^ (n + 1)) (mq P U) P : Int) ∧
        Blk wx b4 164 .u64 (mid i (fix B64 n ((U % B64 ^ (n + 1) % B64 ^ n + mq P U * P) % B64 ^ n)) (mid i (fix B64 (n + 1) (U % B64 ^ (n + 1))) Z13)) ∧ Only w6 wx b4)
      case first =>
        go_region_law (((try go_simp); go_at_call 118; refine H2.out.mono ?_; rintro e w7 ⟨rfl, hb7, ho7⟩; have Hb7 := hide hb7; have Ho7 := hide ho7; clear hb7 ho7))
        all_goals (go_wp2_with fail; go_meet; exact ⟨rfl, Hb7.out, (Only.refl w6 b4).drew.trans Ho7.out⟩)
      obtain ⟨rfl, hb7, ho7⟩ := hcut
      have Hb7 := hide hb7
      have Ho7 := hide ho7
      clear hb7 ho7 H2 r4 r5 r6
      generalize wc = w7 at *
      have r2 := row_cell Hb7.out hin
      have r3 := Hb7.out.frozen (i + n)
      have Hp9 := hide (row_put (o := 0) Hb7.out hin HU.out)
      have hcy := hide (row_round (x := mq P U) (V := P) (o := 0) HU.out).2
      have hUV : U % B64 ^ (n + 1) + mq P U * P + 0 * B64 ^ n + B64 ^ (n + 1) * ov n U = U + mq P U * P := by
        have := Nat.mod_add_div U (B64 ^ (n + 1))
        unfold ov; omega
      have hV0 : (U % B64 ^ (n + 1) + mq P U * P + 0 * B64 ^ n) % B64 ^ (n + 1) = (U + mq P U * P) % B64 ^ (n + 1) := by rw [← hUV, Nat.add_mul_mod_self_left]
      have hV1 : ov n (U % B64 ^ (n + 1) + mq P U * P + 0 * B64 ^ n) + ov n U = mT P x y (i + 1) / B64 ^ n := by
        rw [← hq1.out, Nat.div_div_eq_div_mul, Nat.mul_comm B64, ← Nat.pow_succ, ← hUV, Nat.add_mul_div_left _ _ (pw_pos _)]; rfl
      have hT2 : mT P x y (i + 1) / B64 ^ n ≤ 1 := by
        have := (Nat.div_lt_iff_lt_mul (pw_pos n)).2 (show mT P x y (i + 1) < 2 * B64 ^ n by have := HF.out.lt; have := hT1.out; omega)
        omega
      rw [hV0, row_next (by omega) hq0.out, hq1.out] at Hp9
      have HV1 := hide hV1
      have hT2 := hide hT2
      have HO9 := hide ((HO6.out.trans Ho7.out).set_ (i + n) (.int .u64 (ad1 (U % B64 ^ (n + 1) / B64 ^ n % B64) (tq n (U % B64 ^ (n + 1)) (mq P U) P) 0 : Int)))
      clear hUV hV0 hV1 HO6 Ho7
      generalize tq n (U % B64 ^ (n + 1)) (mq P U) P = k2 at *
      generalize U % B64 ^ (n + 1) / B64 ^ n % B64 = t2 at *
      go_upto_region 12 with fail
      rw [hcy.out]
      obtain ⟨w9, hw9⟩ : ∃ w9, w9 = w7.setCell ⟨b4, i + n, none⟩ (.int .u64 (ad1 t2 k2 0 : Int)) := ⟨_, rfl⟩
      rw [← hw9] at Hp9 HO9 ⊢
      have i9 : IntKind.u64.wrap ((ov n U : Int) + (ov n (U % B64 ^ (n + 1) + mq P U * P + 0 * B64 ^ n) : Int)) = ((mT P x y (i + 1) / B64 ^ n : Nat) : Int) := by
        rw [← Int.natCast_add, Nat.add_comm, HV1.out, u64_small _ (Nat.lt_of_le_of_lt hT2.out (by decide))]
      clear hw9 r2 r3 hcy Hb7
      generalize ov n (U % B64 ^ (n + 1) + mq P U * P + 0 * B64 ^ n) = e2 at *
      generalize ov n U = e1 at *
      generalize ho9 : mT P x y (i + 1) / B64 ^ n = o9 at *
      have ho9 := hide ho9
      go_wp2_with fail
      exact ⟨⟨i + 1, by omega, by simp, by rw [ho9.out], HO9.out, Hp9.out⟩, by simp [intOf]; omega⟩
    · obtain rfl : i = n := by omega
      have hin : i + (i + 1) ≤ 13 := by omega
      have HE := hide (mT_end (a := x) hI.out Hx.out.2.2.2)
      have hTT : mT P x y i % B64 ^ i + mT P x y i / B64 ^ i * B64 ^ i = mT P x y i := by rw [Nat.mul_comm (_ / _)]; exact Nat.mod_add_div _ _
      have HT := hide hT
      have HTT := hide hTT
      have Hblk := hide hblk
      have Hon := hide hon
      have HTm := hide hTm
      clear hT hTT hblk hon hTm
      generalize hTn : mT P x y i = T at *
      have hTn := hide hTn
      generalize T % B64 ^ i = X at *
      generalize T / B64 ^ i = o at *
      go_upto_region 15 with (((with_reducible refine allocN (o := ⟨some 16, _, _, _, _, _⟩) ?_ ?_ ?_); rfl; rfl; intro w5 b5 hv5 hn5))
      have Hv5 := hide hv5
      have HL5 := hide (Hblk.out.next hn5.bl)
      have hB4w : Hid (Below w.heap.size w wr) := Only.below HB.out Hon.out (by have := Hb.out; omega)
      have hv3 := (Hon.out.vb Hv3.out (by have := Hb.out; omega))
      have hFr := HF.out.only Hon.out (by have := Hb.out; omega)
      have Hb5 := hide (show b3 < b5 ∧ b4 < b5 ∧ bm < b5 ∧ w.heap.size ≤ b5 from by
        have h1 := hv3.lt
        have h2 := Hblk.out.lt
        have h3 := hFr.vb.lt
        have h4 := hn5.lo
        have h5 := hB4w.out.size
        omega)
      have HB5 := hide (below_next hB4w.out hn5.bl)
      have Hv35 := hide (hv3.next hn5.bl)
      have HF5 := hide (hFr.next hn5.bl)
      have hrd : Rd w5.drew .u64 (some ⟨b4, i, none⟩) (fix B64 i X) := fun _ => ⟨_, _, rfl, by
        have := (HL5.out.drew.row i).take i
        rw [mid_take (by rw [fix_length]; exact hin) (by rw [fix_length]; omega), fix_take (by omega)] at this
        exact this⟩
      obtain ⟨w6, hrun, hv6, ho6⟩ := copy_v (P := Try.prog) (dT := 104) (sT := 104) (ty := 3) (off := 0) (dLen := i) (dCap := 6) (sCap := 13 - i) Try.underlying104 (by kernel_rfl) hv5.drew hrd (by rw [ve_length]; omega)
      rw [ve_copy HTm.out n6] at hv6
      rw [fix_length] at hrun
      have Hrun := hide hrun
      have Hv6 := hide hv6
      have Ho6 := hide ho6
      have Hlow := hide (lowered_any bm P i X o w6 ((HF5.out.drew).only ho6 (by have := Hb5.out; omega)) HTm.out hTo (by rw [HTT.out]; exact HT.out))
      rw [HTT.out] at Hlow
      clear hrd hrun hv6 ho6 hv5 hn5 hv3 hFr Hblk HL5 c1
      have i1 := wrap_in (2 * (i : Int)) (by omega) (by omega)
      have i2 : (i : Int) ≤ 2 * (i : Int) := by omega
      have i3 : 2 * (i : Int) ≤ 13 := by omega
      have i4 : (2 * (i : Int)).toNat = 2 * i := by omega
      have i5 : 2 * i - i = i := by omega
      have i6 : (i : Int) ≤ 6 := by omega
      have i7 : ¬ (13 = i) := by omega
      go_upto_region 15 with fail
      go_region_law (((with_reducible refine step_copy (o := ⟨some 88, _, _, _, _, _⟩) ?_ (.tmp 83) (.tmp 87) _ _ ?_ ?_ ?_ Hrun.out ?_); rfl; rfl; (go_simp); (go_simp)))
      have hO6 := Only.below (below_drew HB5.out) Ho6.out (by have := Hb5.out; omega)
      have HB6 := hide hO6
      have Hv36 := hide (Ho6.out.vb Hv35.out.drew (by have := Hb5.out; omega))
      clear hO6 Ho6 Hrun HB5
      go_wp2_with (first
          | ((with_reducible refine loadE (o := ⟨some 90, _, _, _, _, _⟩) ?_ (.tmp 16) ?_ ?_ Hv6.out ?_); rfl; rfl; rfl)
          | (go_at_call 120; refine Hlow.out.mono ?_; rintro e w7 ⟨rfl, hb7⟩; replace hb7 := hide hb7)
          | ((with_reducible refine storeE (v' := T % P) (o := ⟨none, _, _, _, _, _⟩) ?_ (.tmp 6) (.tmp 92) ?_ ?_ ?_ (Hv36.out.next hb7.out) ?_); rfl; rfl; rfl; rfl; intro w8 hv8 ho8))
      refine retE rfl rfl hv8 rfl ⟨by rw [← HE.out], Only.below (below_next HB6.out hb7.out) ho8.out (by have := Hb.out; omega)⟩
end Go.Proofs.Ytincemkjdgbnnaa
