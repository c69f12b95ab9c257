/- Walks: package mont, the making of a field. -/
import Derived.Test.YtincemkjdgbnnaaFld
set_option linter.unusedVariables false
set_option linter.unusedSimpArgs false
namespace Go.Proofs.Ytincemkjdgbnnaa
open Go.RowKit Lm

theorem nw_lt (p k : Nat) (hp : p < B64) : nw p k < B64 := by
  cases k with
  | zero => exact hp
  | succ k => exact Nat.mod_lt _ B64_pos
theorem nw_step (p x : Nat) : IntKind.u64.wrap ((x : Int) * IntKind.u64.wrap (2 - IntKind.u64.wrap ((p : Int) * (x : Int)))) = ((x * ((2 + B64 - p * x % B64) % B64) % B64 : Nat) : Int) := by
  have h1 : IntKind.u64.wrap (2 - IntKind.u64.wrap ((p : Int) * (x : Int))) = (((2 + B64 - p * x % B64) % B64 : Nat) : Int) := by
    rw [← Int.natCast_mul]
    generalize p * x = m
    simp only [IntKind.wrap_u64, B64_eq]
    omega
  rw [h1, ← Int.natCast_mul, IntKind.wrap_u64, B64_eq]
  omega
theorem neg_u64 (x : Nat) (h : x < B64) : IntKind.u64.wrap (-(x : Int)) = (((B64 - x) % B64 : Nat) : Int) := by
  rw [IntKind.wrap_u64, B64_eq]; rw [B64_eq] at h; omega

/-- a call hands back a pointer to a field's block. -/
def RetF (w : World) (P n : Nat) (e : Ending) (w' : World) : Prop :=
  ∃ b, e = .returned (.pointer (some ⟨b, 0, none⟩)) ∧ VB w' b 155 (fcells P n) ∧ w.heap.size ≤ b ∧ Below w.heap.size w w'

theorem fill6 {pre R : List Value} {l : List Nat} (hok : Ok B64 l) (hl : l.length ≤ 6) {off : Nat} (ho : off = pre.length) :
    (pre ++ (nums .u64 (List.replicate 6 0) ++ R)).take off ++ (nums .u64 (l.take 6) ++ (pre ++ (nums .u64 (List.replicate 6 0) ++ R)).drop (off + min l.length 6)) = pre ++ (nums .u64 (fix B64 6 (val B64 l)) ++ R) := by
  subst ho
  have e1 : (pre ++ (nums .u64 (List.replicate 6 0) ++ R)).take pre.length = pre := by simp
  have e2 : l.take 6 = l := List.take_of_length_le hl
  rw [e1, e2, Nat.min_eq_left hl, ← List.drop_drop, List.drop_left, List.drop_append_of_le_length (by rw [nums_length, List.length_replicate]; exact hl), ← List.append_assoc (nums _ _)]
  congr 2
  have e3 : (nums .u64 (List.replicate 6 0)).drop l.length = nums .u64 (List.replicate (6 - l.length) 0) := by
    unfold nums; rw [← List.map_drop, List.drop_replicate]
  rw [e3, ← pad_fix hok hl]
  simp [nums]

theorem copy6 {w : World} {b : Nat} {pre R : List Value} {A : Option Addr} {c v : Nat} {off : Nat} (hv : VB w b 155 (pre ++ (nums .u64 (List.replicate 6 0) ++ R))) (ho : off = pre.length) (hr : Rd w .u64 A (digs B64 v)) (h6 : v < B64 ^ 6) :
    ∃ w', (Builtin.copy_ #[104, 104] 3 #[.slice (some ⟨b, off, none⟩) 6 6, .slice A (digs B64 v).length c]).run Try.prog w = .ok (goInt ((digs B64 v).length : Int)) w' ∧
      VB w' b 155 (pre ++ (nums .u64 (fix B64 6 v) ++ R)) ∧ Only w w' b := by
  have hl := digs_length_le B64_ge h6
  obtain ⟨w', h1, h2, h3⟩ := copy_v (P := Try.prog) (dT := 104) (sT := 104) (ty := 3) (off := off) (dLen := 6) (dCap := 6) (sCap := c) Try.underlying104 (by kernel_rfl) hv hr (by simp [nums]; omega)
  rw [fill6 (digs_ok B64_ge v) hl ho, val_digs B64_ge] at h2
  rw [Nat.min_eq_left hl] at h1
  exact ⟨w', h1, h2, h3⟩

/-- one place is 1, the others 0. -/
def unit1 (m i : Nat) : List Nat := (List.replicate m 0).set i 1
theorem unit1_length (m i : Nat) : (unit1 m i).length = m := by simp [unit1]
theorem unit1_ok (m i : Nat) : Ok B64 (unit1 m i) := Ok.set (Ok.replicate B64_pos _) (by decide)
theorem val_unit1 {m i : Nat} (h : i < m) : val B64 (unit1 m i) = B64 ^ i := by
  have := val_set (B := B64) (List.replicate m 0) i 1 (by simpa using h)
  rw [val_replicate] at this
  simpa [unit1] using this
theorem unit1_take {m i k : Nat} (h : i < k) (hk : k ≤ m) : (unit1 m i).take k = unit1 k i := by
  unfold unit1
  rw [List.take_set, List.take_replicate, Nat.min_eq_left hk]
theorem unit1_move {m i j : Nat} : ((unit1 m i).set i 0).set j 1 = unit1 m j := by
  unfold unit1
  rw [List.set_set]
  congr 1
  apply List.ext_getElem
  · simp
  · intro k h1 h2
    simp only [List.getElem_set, List.getElem_replicate]
    split <;> rfl

theorem nth_unit1_self {m i : Nat} (h : i < m) : nth (unit1 m i) i = 1 := nth_set_self (by simpa using h)
theorem nth_unit1_ne {m i j : Nat} (h : i ≠ j) (hj : j < m) : nth (unit1 m i) j = 0 := by
  unfold unit1; rw [nth_set_ne h, nth_of_lt (by simpa using hj)]; simp

theorem u0 : Value.int .u64 0 = Value.int .u64 ((0 : Nat) : Int) := rfl

set_option maxRecDepth 100000 in
set_option maxHeartbeats 3200000 in
theorem new_any (A : Option Addr) (c : Nat) (l : List Nat) (P n : Nat) (w : World) (hr : Rd w .u64 A l) (hc : l.length ≤ c) (hlim : l.length ≤ lim) (hok : Ok B64 l)
    (hP : val B64 l = P) (hn : (digs B64 P).length = n) (hn1 : 0 < n) (hn6 : n ≤ 6) :
    Calls Try.prog 106 #[.slice A l.length c] w (RetF w P n) := by
  go_enter Try.func106, Try.ntmps106
  go_wp2_with fail
  refine (trim_any A c l w hr hc hlim hok).mono ?_
  rintro e w1 ⟨A1, c1, rfl, hc1, hr1, hb1⟩
  rw [hP, hn] at hc1 ⊢
  rw [hP] at hr1
  have okD := digs_ok B64_ge P
  have hvD := val_digs B64_ge P
  have hP6 : P < B64 ^ 6 := Nat.lt_of_lt_of_le (digs_lt B64_ge P) (by rw [hn]; exact Nat.pow_le_pow_right B64_pos hn6)
  have hvb := VB.new w1 155 (nums .u64 (List.replicate 6 0) ++ (.int .i64 (n : Int) :: .int .u64 0 :: (nums .u64 (List.replicate 6 0) ++ nums .u64 (List.replicate 6 0))))
  obtain ⟨w2, hrun, hv2, ho2⟩ := copy_v (P := Try.prog) (dT := 104) (sT := 104) (ty := 3) (off := 0) (dLen := 6) (dCap := 6) (sCap := c1) Try.underlying104 (by kernel_rfl) hvb
    (hr1.below (below_alloc (Below.refl _ _) _)) (by simp [nums])
  have hf := fill6 (pre := []) (R := .int .i64 (n : Int) :: .int .u64 0 :: (nums .u64 (List.replicate 6 0) ++ nums .u64 (List.replicate 6 0))) okD (by rw [hn]; exact hn6) (off := 0) rfl
  simp only [List.nil_append] at hf
  rw [hf, hvD] at hv2
  have Hrun := hide hrun
  rw [hn] at Hrun
  have Hr1 := hide hr1
  obtain ⟨bm, hbm⟩ : ∃ b, b = w1.heap.size := ⟨_, rfl⟩
  rw [← hbm] at hv2 ho2 Hrun
  have hb2 := hide (Only.below (below_alloc hb1 (.cells (nums .u64 (List.replicate 6 0) ++ (.int .i64 (n : Int) :: .int .u64 0 :: (nums .u64 (List.replicate 6 0) ++ nums .u64 (List.replicate 6 0)))).toArray 155)) ho2 (by rw [hbm]; exact hb1.size))
  have hgm : w.heap.size ≤ bm := by rw [hbm]; exact hb1.size
  have hr2 : RdB w2 .u64 A1 (digs B64 P) bm := ((hr1.toB).next (below_alloc (Below.refl _ _) _)).only ho2 (by rw [hbm]; exact Nat.le_refl _) |> fun h => by rw [hbm]; exact h
  have hbm' : w1.heap.size = bm := hbm.symm
  have Hr2 := hide hr2
  clear hr1 hrun hvb hf hr2 Hr1 hbm
  have hc0 := hv2.cell 0
  have hc6 := hv2.cell 6
  have hc7 := hv2.cell 7
  have hfz := hv2.frozen
  have e0 : (nums .u64 (fix B64 6 P) ++ (.int .i64 (n : Int) :: .int .u64 0 :: (nums .u64 (List.replicate 6 0) ++ nums .u64 (List.replicate 6 0))))[0]? = some (.int .u64 ((P % B64 : Nat) : Int)) := rfl
  have e6 : (nums .u64 (fix B64 6 P) ++ (.int .i64 (n : Int) :: .int .u64 0 :: (nums .u64 (List.replicate 6 0) ++ nums .u64 (List.replicate 6 0))))[6]? = some (.int .i64 (n : Int)) := rfl
  have e7 : (nums .u64 (fix B64 6 P) ++ (.int .i64 (n : Int) :: .int .u64 0 :: (nums .u64 (List.replicate 6 0) ++ nums .u64 (List.replicate 6 0))))[7]? = some (.int .u64 0) := rfl
  rw [e0] at hc0
  rw [e6] at hc6
  rw [e7] at hc7
  have hf7 := hfz 7
  clear e0 e6 e7 hfz
  have hp0 : P % B64 < B64 := Nat.mod_lt _ B64_pos
  have Hv2 := hide hv2
  have Ho2 := hide ho2
  have Hok := hide okD
  have HvD := hide hvD
  have Hn := hide hn
  clear hv2 ho2 okD hvD hn
  generalize hpp : P % B64 = p0 at *
  have hpp := hide hpp
  go_upto_region 3 with fail
  go_upto_region 4 with ((with_reducible refine wpList_copy (o := ⟨some 17, _, _, _, _, _⟩) ?_ (.tmp 15) (.tmp 16) _ _ ?_ ?_ ?_ Hrun.out ?_); rfl; rfl; rfl; rfl)
  clear Hrun
  go_upto_block 0 with fail
  go_cut [4] (fun s wx => s = .int .u64 (nw p0 6 : Int) ∧ wx = w2)
  case first =>
    go_wp2_with fail
    go_loop [4, 23] (fun s k => ∃ i : Nat, i ≤ 6 ∧ k = .int .i64 (i : Int) ∧ s = .int .u64 (nw p0 i : Int)) (fun _ k => 6 - (intOf k).toNat)
    case atStart => exact ⟨0, by omega, rfl, rfl⟩
    case round =>
      obtain ⟨i, hi, rfl, rfl⟩ := hrel
      by_cases hlt : i < 6
      · have hE := hide (nw_step p0 (nw p0 i))
        have hx := hide (show nw p0 (i + 1) = nw p0 i * ((2 + B64 - p0 * nw p0 i % B64) % B64) % B64 from rfl)
        generalize nw p0 i = x at *
        go_wp2_with fail
        exact ⟨⟨i + 1, by omega, by simp, val_int (by rw [hE.out, hx.out])⟩, by simp [intOf]; omega⟩
      · obtain rfl : i = 6 := by omega
        go_wp2_with fail
        go_meet
        exact ⟨rfl, rfl⟩
  obtain ⟨rfl, rfl⟩ := hcut
  have hx6 := nw_lt p0 6 hp0
  have hneg := neg_u64 (nw p0 6) hx6
  have hinv := hide (show (B64 - nw p0 6) % B64 = ninv P by unfold ninv; rw [hpp.out])
  rw [hinv.out] at hneg
  generalize nw p0 6 = x at *
  have Hv3 := hide (Hv2.out.set_ 7 (.int .u64 (ninv P : Int)))
  have Hb3 := hide (hb2.out.setCell (p := ⟨bm, 7, none⟩) hgm (.int .u64 (ninv P : Int)))
  have Hr3 := hide (Hr2.out.set_ (Nat.le_refl _) 7 (.int .u64 (ninv P : Int)))
  go_upto_region 10 with fail
  clear hc0 hc6 hc7 hf7 hneg
  have hw5 : ∃ w5, w5 = wc.setCell ⟨bm, 7, none⟩ (.int .u64 (ninv P : Int)) := ⟨_, rfl⟩
  obtain ⟨w5, hw5⟩ := hw5
  rw [← hw5] at Hv3 Hb3 Hr3 ⊢
  clear hw5 Hv2 hb2 Hr2 Ho2
  have hl5 : (nums .u64 (fix B64 6 P) ++ (.int .i64 (n : Int) :: .int .u64 0 :: (nums .u64 (List.replicate 6 0) ++ nums .u64 (List.replicate 6 0)))).set 7 (.int .u64 (ninv P : Int)) =
      nums .u64 (fix B64 6 P) ++ (.int .i64 (n : Int) :: .int .u64 (ninv P : Int) :: (nums .u64 (List.replicate 6 0) ++ nums .u64 (List.replicate 6 0))) := rfl
  rw [hl5] at Hv3
  clear hl5
  have c6 := Hv3.out.cell 6
  rw [show (nums .u64 (fix B64 6 P) ++ (.int .i64 (n : Int) :: .int .u64 (ninv P : Int) :: (nums .u64 (List.replicate 6 0) ++ nums .u64 (List.replicate 6 0))))[6]? = some (.int .i64 (n : Int)) from rfl] at c6
  have hmk := mk_u64 (2 * (n : Int) + 1) (2 * n + 1) (by omega) (by unfold lim; omega)
  obtain ⟨bp, hbp⟩ : ∃ b, b = w5.heap.size := ⟨_, rfl⟩
  have hbp' := hbp.symm
  have hlt5 := Hv3.out.lt
  have hmp : bm ≠ bp := by omega
  have hgp : w.heap.size ≤ bp := by have := Hb3.out.size; omega
  have hbmp : bm ≤ bp := by omega
  have c6a := (Hv3.out.alloc (nblk .u64 22 (List.replicate (2 * n + 1) 0))).cell 6
  rw [show (nums .u64 (fix B64 6 P) ++ (.int .i64 (n : Int) :: .int .u64 (ninv P : Int) :: (nums .u64 (List.replicate 6 0) ++ nums .u64 (List.replicate 6 0))))[6]? = some (.int .i64 (n : Int)) from rfl] at c6a
  have hbk : Blk (w5.alloc (nblk .u64 22 (List.replicate (2 * n + 1) 0))) bp 22 .u64 (List.replicate (2 * n + 1) 0) := by rw [hbp]; exact Blk.new _ _ _ _
  have hcp := hbk.cell (i := n) (by simp; omega)
  have hfp := hbk.frozen n
  have hnz : nth (List.replicate (2 * n + 1) 0) n = 0 := by rw [nth_of_lt (by simp; omega)]; simp
  rw [hnz] at hcp
  have Hp6 := hide (hbk.set_ n (E := 1) (z := 1) rfl)
  have Hv6 := hide ((Hv3.out.alloc (nblk .u64 22 (List.replicate (2 * n + 1) 0))).far (p := ⟨bp, n, none⟩) hmp (.int .u64 1))
  have Hb6 := hide ((below_alloc Hb3.out (nblk .u64 22 (List.replicate (2 * n + 1) 0))).setCell (p := ⟨bp, n, none⟩) hgp (.int .u64 1))
  have Hr6 := hide ((Hr3.out.next (below_alloc (Below.refl _ _) (nblk .u64 22 (List.replicate (2 * n + 1) 0)))).set_ hbmp n (.int .u64 1))
  clear hbk hbp hnz Hb3 Hr3
  go_upto_region 12 with fail
  clear c6 c6a hcp hfp hmk hbp' hlt5
  obtain ⟨w6, hw6⟩ : ∃ w6, w6 = (w5.alloc (nblk .u64 22 (List.replicate (2 * n + 1) 0))).setCell ⟨bp, n, none⟩ (.int .u64 1) := ⟨_, rfl⟩
  rw [← hw6] at Hp6 Hv6 Hb6 Hr6 ⊢
  clear hw6
  change Hid (Blk w6 bp 22 .u64 (unit1 (2 * n + 1) n)) at Hp6
  have c6 := Hv6.out.cell 6
  rw [show (nums .u64 (fix B64 6 P) ++ (.int .i64 (n : Int) :: .int .u64 (ninv P : Int) :: (nums .u64 (List.replicate 6 0) ++ nums .u64 (List.replicate 6 0))))[6]? = some (.int .i64 (n : Int)) from rfl] at c6
  have hD0 : P ≠ 0 := by
    rintro rfl
    rw [digs_zero] at Hn
    have := Hn.out
    simp at this; omega
  have hrest : Hid (Calls Try.prog 137 #[.slice (some ⟨bp, 0, none⟩) (n + 1) (2 * n + 1), .slice A1 n c1] w6.drew (RetSl w6.drew .u64 (digs B64 (B64 ^ n % P)))) := by
    have h := rest_any (some ⟨bp, 0, none⟩) A1 (2 * n + 1) c1 (unit1 (n + 1) n) (digs B64 P) w6.drew
      (fun _ => ⟨_, _, rfl, by rw [← unit1_take (m := 2 * n + 1) (by omega) (by omega)]; exact Hp6.out.row0.take _⟩) (by rw [unit1_length]; omega) (by rw [unit1_length]; unfold lim; omega) (unit1_ok _ _)
      Hr6.out.rd (by rw [Hn.out]; exact hc1) (by rw [Hn.out]; unfold lim; omega) Hok.out (by rw [HvD.out]; exact hD0)
    rw [unit1_length, Hn.out, HvD.out, val_unit1 (by omega)] at h
    exact h
  have hm6 : B64 ^ n % P < B64 ^ 6 := Nat.lt_trans (Nat.mod_lt _ (by omega)) hP6
  have iw : IntKind.i64.wrap ((n : Int) + 1) = (n : Int) + 1 := wrap_in _ (by omega) (by omega)
  have i1 : (n : Int) + 1 ≤ 2 * (n : Int) + 1 := by omega
  have i2 : ((n : Int) + 1).toNat = n + 1 := by omega
  have i3 : (0 : Int) ≤ (n : Int) + 1 := by omega
  go_region_law (first
    | ((with_reducible refine step_copy (o := ⟨some 67, _, _, _, _, _⟩) ?_ (.tmp 57) (.tmp 66) _ _ ?_ ?_ ?_ Hrun8.out ?_); rfl; rfl; rfl; rfl)
    | ((try go_simp); go_at_call 137; refine hrest.out.mono ?_; rintro e w7 ⟨A7, c7, rfl, hc7, hr7, hb7⟩
       have Hv7 := Hv6.out.drew.next hb7
       obtain ⟨w8, hrun8, hv8, ho8⟩ := copy6 (c := c7) (off := 8) (pre := nums .u64 (fix B64 6 P) ++ [.int .i64 (n : Int), .int .u64 (ninv P : Int)]) (R := nums .u64 (List.replicate 6 0)) (by rw [List.append_assoc]; exact Hv7) (by simp [nums, fix_length]) hr7 hm6
       have Hrun8 := hide hrun8
       clear hrun8))
  have Hv8 := hide hv8
  rw [List.append_assoc] at Hv8
  have Hp8 := hide (ho8.blk (Hp6.out.drew.next hb7) (Ne.symm hmp))
  have Hr8 := hide ((Hr6.out.drew.next hb7).only ho8 (Nat.le_refl _))
  have hb67 := below_next (below_drew Hb6.out) hb7
  have Hb8 := hide (Only.below hb67 ho8 hgm)
  clear hv8 ho8 hb7 hr7 c6 Hrun8 hrest Hv7 Hp6 Hr6 Hb6 Hv6 hb67 iw i1 i2 i3
  have c6 := Hv8.out.cell 6
  rw [show (nums .u64 (fix B64 6 P) ++ ([.int .i64 (n : Int), .int .u64 (ninv P : Int)] ++ (nums .u64 (fix B64 6 (B64 ^ n % P)) ++ nums .u64 (List.replicate 6 0))))[6]? = some (.int .i64 (n : Int)) from rfl] at c6
  have cn := Hp8.out.cell (i := n) (by rw [unit1_length]; omega)
  have c2n := Hp8.out.cell (i := 2 * n) (by rw [unit1_length]; omega)
  rw [nth_unit1_self (by omega)] at cn
  rw [nth_unit1_ne (by omega) (by omega)] at c2n
  have fn := Hp8.out.frozen n
  have f2n := Hp8.out.frozen (2 * n)
  have iw := wrap_in (2 * (n : Int)) (by omega) (by omega)
  have i1 : (n : Int) < 2 * (n : Int) + 1 := by omega
  have i2 : 2 * (n : Int) < 2 * (n : Int) + 1 := by omega
  have i3 : (2 * (n : Int)).toNat = 2 * n := by omega
  have i4 : (0 : Int) ≤ 2 * (n : Int) := by omega
  go_wp2_with fail
  go_region
  have Hp9 := hide ((Hp8.out.set_ n (E := 0) (z := 0) rfl).set_ (2 * n) (E := 1) (z := 1) rfl).drew
  rw [unit1_move] at Hp9
  have Hv9 := hide ((Hv8.out.far (p := ⟨bp, n, none⟩) hmp (.int .u64 0)).far (p := ⟨bp, 2 * n, none⟩) hmp (.int .u64 1)).drew
  have Hr9 := hide ((Hr8.out.set_ hbmp n (.int .u64 0)).set_ hbmp (2 * n) (.int .u64 1)).drew
  have Hb9 := hide (below_drew ((Hb8.out.setCell (p := ⟨bp, n, none⟩) hgp (.int .u64 0)).setCell (p := ⟨bp, 2 * n, none⟩) hgp (.int .u64 1)))
  clear c6 cn c2n fn f2n iw i1 i2 i3 i4 Hp8 Hr8 Hb8
  obtain ⟨w9, hw9⟩ : ∃ w9, w9 = ((w8.setCell ⟨bp, n, none⟩ (.int .u64 0)).setCell ⟨bp, 2 * n, none⟩ (.int .u64 1)).drew := ⟨_, rfl⟩
  rw [← hw9] at Hp9 Hv9 Hr9 Hb9 ⊢
  clear hw9 Hv8
  have hrest : Hid (Calls Try.prog 137 #[.slice (some ⟨bp, 0, none⟩) (2 * n + 1) (2 * n + 1), .slice A1 n c1] w9.drew (RetSl w9.drew .u64 (digs B64 (B64 ^ (2 * n) % P)))) := by
    have h := rest_any (some ⟨bp, 0, none⟩) A1 (2 * n + 1) c1 (unit1 (2 * n + 1) (2 * n)) (digs B64 P) w9.drew
      (fun _ => ⟨_, _, rfl, Hp9.out.row0⟩) (by rw [unit1_length]; exact Nat.le_refl _) (by rw [unit1_length]; unfold lim; omega) (unit1_ok _ _)
      Hr9.out.rd (by rw [Hn.out]; exact hc1) (by rw [Hn.out]; unfold lim; omega) Hok.out (by rw [HvD.out]; exact hD0)
    rw [unit1_length, Hn.out, HvD.out, val_unit1 (by omega)] at h
    exact h
  have hm6' : B64 ^ (2 * n) % P < B64 ^ 6 := Nat.lt_trans (Nat.mod_lt _ (by omega)) hP6
  go_wp2_with fail
  go_region_law (first
    | ((with_reducible refine step_copy (o := ⟨some 88, _, _, _, _, _⟩) ?_ (.tmp 84) (.tmp 87) _ _ ?_ ?_ ?_ Hrun11.out ?_); rfl; rfl; rfl; rfl)
    | ((try go_simp); go_at_call 137; refine hrest.out.mono ?_; rintro e w10 ⟨A10, c10, rfl, hc10, hr10, hb10⟩
       have Hv10 := Hv9.out.drew.next hb10
       obtain ⟨w11, hrun11, hv11, ho11⟩ := copy6 (c := c10) (off := 14) (R := []) (pre := nums .u64 (fix B64 6 P) ++ ([.int .i64 (n : Int), .int .u64 (ninv P : Int)] ++ nums .u64 (fix B64 6 (B64 ^ n % P)))) (by
         rw [List.append_nil, List.append_assoc, List.append_assoc]; exact Hv10) (by simp [nums, fix_length]) hr10 hm6'
       have Hrun11 := hide hrun11
       clear hrun11))
  have Hv11 : Hid (VB w11 bm 155 (fcells P n)) := by
    rw [List.append_nil, List.append_assoc, List.append_assoc] at hv11
    exact hv11
  have hb9 := hide (Only.below (below_next (below_drew Hb9.out) hb10) ho11 hgm)
  clear hv11 ho11 hb10 hr10 Hrun11 hrest Hv10 Hb9 Hp9 Hr9 Hv9
  go_wp2_with fail
  go_ret
  exact ⟨bm, rfl, Hv11.out, hgm, hb9.out⟩
end Go.Proofs.Ytincemkjdgbnnaa
