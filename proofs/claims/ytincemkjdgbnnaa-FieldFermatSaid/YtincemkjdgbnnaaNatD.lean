/- Walks: the reference's numbers (nat): From; the copies of quarrykeep. -/
import Derived.Test.YtincemkjdgbnnaaNatC
import Derived.Test.YtincemkjdgbnnaaApp
set_option linter.unusedVariables false
set_option linter.unusedSimpArgs false
namespace Go.Proofs.Ytincemkjdgbnnaa
open Go.RowKit Lm

/-- one byte is laid into its digit. -/
theorem lay32_step {N i V d : Nat} (hi : i < 4 * N) (hV : V < 256 ^ i) (hd : d < 256) :
    (fix B32 N V).set (i / 4) (nth (fix B32 N V) (i / 4) ||| d * 2 ^ (8 * (i % 4))) = fix B32 N (V + 256 ^ i * d) ∧ d * 2 ^ (8 * (i % 4)) < B32 := by
  have hj : i / 4 < N := by omega
  have hr : i % 4 < 4 := Nat.mod_lt _ (by omega)
  have ha := Nat.div_add_mod i 4
  generalize i / 4 = j at *
  generalize i % 4 = r at *
  have e16 : ∀ k, 256 ^ k = 2 ^ (8 * k) := fun k => by rw [Nat.pow_mul]
  have eB : ∀ k, B32 ^ k = 2 ^ (32 * k) := fun k => by rw [Nat.pow_mul]; rfl
  have hold : nth (fix B32 N V) j = V / B32 ^ j % B32 := nth_fix32 hj
  have hlt : d * 2 ^ (8 * r) < 2 ^ (8 * r + 8) := by
    rw [Nat.pow_add, Nat.mul_comm]; exact Nat.mul_lt_mul_of_pos_left (by omega) (Nat.pow_pos (by omega))
  have hle : 2 ^ (8 * r + 8) ≤ B32 := Nat.pow_le_pow_right (by omega) (show 8 * r + 8 ≤ 32 by omega)
  have hVj : V / B32 ^ j < 2 ^ (8 * r) := by
    rw [Nat.div_lt_iff_lt_mul (p32_pos j), eB, ← Nat.pow_add, show 8 * r + 32 * j = 8 * i by omega, ← e16]
    exact hV
  have hVB : V / B32 ^ j % B32 = V / B32 ^ j := Nat.mod_eq_of_lt (Nat.lt_of_lt_of_le hVj (Nat.pow_le_pow_right (by omega) (show 8 * r ≤ 32 by omega)))
  refine ⟨?_, by omega⟩
  rw [hold, hVB, Nat.or_comm, or_add (Nat.mul_mod_left _ _) hVj]
  have hnew : d * 2 ^ (8 * r) + V / B32 ^ j < B32 := by
    have : d * 2 ^ (8 * r) + 2 ^ (8 * r) ≤ 2 ^ (8 * r + 8) := by
      rw [← Nat.succ_mul, Nat.pow_add, Nat.mul_comm]; exact Nat.mul_le_mul_left _ (by omega)
    omega
  have hadd : 256 ^ i * d = B32 ^ j * (d * 2 ^ (8 * r)) := by
    rw [e16, eB, show 8 * i = 32 * j + 8 * r by omega, Nat.pow_add, Nat.mul_assoc, Nat.mul_comm d]
  have hVN : V + 256 ^ i * d < B32 ^ N := by
    have h1 : 256 ^ (i + 1) ≤ B32 ^ N := by rw [e16, eB]; exact Nat.pow_le_pow_right (by omega) (by omega)
    have h2 : 256 ^ i * d + 256 ^ i ≤ 256 ^ (i + 1) := by rw [← Nat.mul_succ, Nat.pow_succ]; exact Nat.mul_le_mul_left _ (by omega)
    omega
  refine val_inj (Ok.set (fix_ok B32_pos _ _) hnew) (fix_ok B32_pos _ _) (by rw [List.length_set, fix_length, fix_length]) ?_
  have hs := val_set (B := B32) (fix B32 N V) j (d * 2 ^ (8 * r) + V / B32 ^ j) (by rw [fix_length]; exact hj)
  rw [← nth_of_lt (by rw [fix_length]; exact hj), hold, hVB] at hs
  rw [val_fix_of_lt (show V < B32 ^ N by omega), Nat.mul_add] at hs
  rw [val_fix_of_lt hVN, hadd]
  omega

theorem or_shl32 {x y k : Nat} (hy : y < B32) (h : x * 2 ^ k < B32) : bits .or .u32 (y : Int) (IntKind.u32.wrap ((x : Int) * 2 ^ k)) = ((y ||| x * 2 ^ k : Nat) : Int) := by
  have e : ((x : Int) * 2 ^ k) = ((x * 2 ^ k : Nat) : Int) := by simp
  have h2 := h
  rw [B32_eq] at h2
  rw [e, IntKind.wrap_u32, Int.emod_eq_of_lt (by omega) (by omega), or_u32 hy h]

theorem nth_reverse {l : List Nat} {i m : Nat} (hm : l.length = m) (h : i < m) : nth l.reverse i = nth l (m - 1 - i) := by
  rw [nth_of_lt (by rw [List.length_reverse, hm]; exact h), nth_of_lt (by omega), List.getElem_reverse]
  simp [hm]

set_option maxRecDepth 100000 in
set_option maxHeartbeats 1600000 in
theorem nfrom_any (A : Option Addr) (c : Nat) (l : List Nat) (w : World) (hr : Rd w .u8 A l) (hc : l.length ≤ c) (hlim : l.length ≤ lim) (hok : Ok 256 l) :
    Calls Try.prog 16 #[.slice A l.length c] w (RetSl w .u32 (digs B32 (be l))) := by
  have hlim2 := hlim
  unfold lim at hlim2
  obtain ⟨N, hN⟩ : ∃ N, N = (l.length + 3) / 4 := ⟨_, rfl⟩
  have okR : Ok 256 l.reverse := fun y hy => hok y (List.mem_reverse.1 hy)
  generalize hm : l.length = m at *
  have Hm := hide hm; clear hm
  have HN := hide hN
  have hmk := mk_u32 (((m : Int) + 3) / 4) N (by rw [hN]; omega) (by unfold lim; omega)
  have iw0 := wrap_in ((m : Int) + 3) (by omega) (by omega)
  have iw1 := wrap_in (((m : Int) + 3) / 4) (by omega) (by omega)
  clear hN
  go_enter Try.func16, Try.ntmps16
  go_wp2_with fail
  clear hmk iw0 iw1
  go_loopw [4, 5] (fun k _ wr => ∃ i : Nat, i ≤ m ∧ k = .int .i64 i ∧ Only (w.alloc (nblk .u32 95 (List.replicate N 0))) wr w.heap.size ∧
    Blk wr w.heap.size 95 .u32 (fix B32 N (val 256 (l.reverse.take i)))) (fun k _ _ => m - (intOf k).toNat)
  case atStart =>
    refine ⟨0, Nat.zero_le _, rfl, Only.refl _ _, ?_⟩
    have : fix B32 N (val 256 (l.reverse.take 0)) = List.replicate N 0 := by
      refine val_inj (fix_ok B32_pos _ _) (Ok.replicate B32_pos _) (by rw [fix_length, List.length_replicate]) ?_
      rw [val_replicate, val_fix]; simp [val]
    rw [this]
    exact Blk.new _ _ _ _
  case round =>
    obtain ⟨i, hi, rfl, hon, hblk⟩ := hrel
    by_cases hlt : i < m
    · obtain ⟨b, off, rfl, hrow⟩ := hr (by rw [Hm.out]; omega)
      have hbw := hrow.lt (by rw [Hm.out]; omega)
      have hrow2 : RowN wr .u8 b off l := hon.row (hrow.below ((Below.refl _ _).alloc (Nat.le_refl _) _)) (by omega)
      obtain ⟨a, ha⟩ : ∃ a, a = m - 1 - i := ⟨_, rfl⟩
      have hcell := hrow2 a (by rw [Hm.out]; omega)
      have hx : nth l a < 256 := Ok.getD (by decide) hok _
      have ha' : (m : Int) - 1 - (i : Int) = (a : Int) := by omega
      have ham : a < m := by omega
      have hjN : i / 4 < N := by rw [HN.out]; omega
      have hst := lay32_step (N := N) (V := val 256 (l.reverse.take i)) (d := nth l a) (i := i) (by rw [HN.out]; omega) (vt_lt okR (by decide) i) hx
      have hV2 : val 256 (l.reverse.take i) + 256 ^ i * nth l a = val 256 (l.reverse.take (i + 1)) := by
        rw [vt_succ', nth_reverse Hm.out hlt, ha]
      rw [hV2] at hst
      have hcell2 := hblk.cell (i := i / 4) (by rw [fix_length]; exact hjN)
      have hfr := hblk.frozen (i / 4)
      have hy : nth (fix B32 N (val 256 (l.reverse.take i))) (i / 4) < B32 := Ok.getD B32_pos (fix_ok B32_pos _ _) _
      have Hst := hide hst
      have Hblk := hide hblk
      have Hon := hide hon
      clear hrow hrow2 hr hst hblk hon hV2 hbw
      generalize fix B32 N (val 256 (l.reverse.take i)) = L at *
      generalize nth l a = x at *
      generalize nth L (i / 4) = y at *
      have Ha := hide ha
      clear ha
      have iwa := wrap_in ((m : Int) - 1) (by omega) (by omega)
      have iwb := wrap_in (a : Int) (by omega) (by omega)
      have i0 : (0 : Int) ≤ (i : Int) / 4 := by omega
      have i1 : (i : Int) / 4 < (N : Int) := by omega
      have i2 : ((i : Int) / 4).toNat = i / 4 := by omega
      have iw := wrap_in ((i : Int) / 4) (by omega) (by omega)
      have iw2 := wrap_in ((i : Int) % 4) (by omega) (by omega)
      have iw3 := wrap_in (8 * ((i : Int) % 4)) (by omega) (by omega)
      have ex : (x : Int) % 4294967296 = (x : Int) := by omega
      have iw4 := wrap_in ((i : Int) + 1) (by omega) (by omega)
      go_wp2_with fail
      clear ha'
      go_region
      go_wp2_with fail
      have hE := or_shl32 hy Hst.out.2
      have hblk2 := Blk.drew (Hblk.out.set_ (i / 4) hE)
      rw [Hst.out.1] at hblk2
      exact ⟨⟨i + 1, by omega, by simp, (Hon.out.set_ _ _).drew, hblk2⟩, by simp [intOf]; omega⟩
    · obtain rfl : i = m := by omega
      have hfull : l.reverse.take i = l.reverse := List.take_of_length_le (by rw [List.length_reverse, Hm.out]; exact Nat.le_refl _)
      rw [hfull] at hblk
      have hbw : Below w.heap.size w wr := Only.below ((Below.refl _ _).alloc (Nat.le_refl _) _) hon (Nat.le_refl _)
      have hv : be l < B32 ^ N := by
        have h1 := val_lt okR
        rw [List.length_reverse, Hm.out] at h1
        have h2 : 256 ^ i ≤ B32 ^ N := by
          rw [show B32 = 2 ^ 32 from rfl, show (256 : Nat) = 2 ^ 8 from rfl, ← Nat.pow_mul, ← Nat.pow_mul]
          exact Nat.pow_le_pow_right (by omega) (by rw [HN.out]; omega)
        exact Nat.lt_of_lt_of_le h1 h2
      have htr := ntrim_any (some ⟨w.heap.size, 0, none⟩) N (fix B32 N (be l)) wr (fun _ => ⟨_, _, rfl, hblk.row0⟩) (by rw [fix_length]; exact Nat.le_refl _) (by rw [fix_length, HN.out]; unfold lim; omega) (fix_ok B32_pos _ _)
      rw [fix_length, val_fix_of_lt hv] at htr
      have Htr := hide htr
      clear htr hblk hon
      go_wp2_with fail
      refine Htr.out.mono ?_
      rintro e w2 ⟨A2, c2, rfl, hc2, hr2, hb2⟩
      go_wp2_with fail
      go_ret
      exact retsl_mk (below_next hbw hb2) rfl hc2 hr2

/-- append onto a list of bytes that was made just now. -/
theorem app_new (A : Option Addr) (c : Nat) (m : List Nat) (w : World) (hr : Rd w .u8 A m) (hlen : m.length ≤ lim) :
    ∃ A' c' w', (Builtin.append_ #[25, 25] 25 #[.slice (some ⟨w.heap.size, 0, none⟩) 0 0, .slice A m.length c]).run Try.prog (w.alloc (.cells #[] 5)) = .ok (.slice A' m.length c') w' ∧ m.length ≤ c' ∧ Rd w' .u8 A' m ∧ Below w.heap.size w w' := by
  unfold lim at hlen
  have hown : Own (w.alloc (.cells #[] 5)) w.heap.size .u8 5 (.slice (some ⟨w.heap.size, 0, none⟩) 0 0) [] := World.ownsRow_made w #[] 0 (Nat.le_refl _) (by simp) (by simp)
  have hb0 : Below w.heap.size w (w.alloc (.cells #[] 5)) := below_alloc (Below.refl _ _) _
  obtain ⟨v', w', hrun, hown', hg, _⟩ := app_n (P := Try.prog) (ty := 25) (c := c) Try.underlying25 Try.info_u8 (by omega) hown (hr.below hb0) (by simp; omega) hb0.size
  rw [List.nil_append] at hown'
  obtain ⟨A', c', rfl, hc, hrd⟩ := hown'.slice
  exact ⟨A', c', w', hrun, hc, hrd, hb0.grown hg hb0.size (fun k hk => by simp [Value.ownBlock] at hk; omega)⟩

set_option maxRecDepth 100000 in
set_option maxHeartbeats 1600000 in
theorem twin_any (A : Option Addr) (c most : Nat) (l : List Nat) (w : World) (hr : Rd w .u8 A l) (hc : l.length ≤ c) (hlim : most ≤ lim) :
    Calls Try.prog 14 #[.slice A l.length c, .int .i64 (most : Int)] w (RetSl w .u8 (l.take most)) := by
  by_cases h : most < l.length
  · obtain ⟨A', c', w', hrun, hc', hrd, hb⟩ := app_new A c (l.take most) w (hr.take most) (by rw [List.length_take]; omega)
    have hl : (l.take most).length = most := by rw [List.length_take]; omega
    rw [hl] at hrun hc'
    have hd : decide ((most : Int) < (l.length : Int)) = true := decide_eq_true (by omega)
    have h0 : (0 : Int) ≤ (most : Int) := by omega
    have h1 : (most : Int) ≤ (c : Int) := by omega
    have Hl := hide hl
    have Hr := hide hrd
    have Hb := hide hb
    have Hc := hide hc'
    have Hrun := hide hrun
    clear hl hrd hb hc' hrun hr
    go_enter Try.func14, Try.ntmps14
    go_wp2_with (at_builtin; refine wpList_app rfl _ _ _ rfl rfl rfl Hrun.out ?_)
    go_ret
    exact retsl_mk Hb.out Hl.out Hc.out Hr.out
  · obtain ⟨A', c', w', hrun, hc', hrd, hb⟩ := app_new A c l w hr (by omega)
    have hl : l.take most = l := List.take_of_length_le (by omega)
    rw [hl]
    have hd : decide ((most : Int) < (l.length : Int)) = false := decide_eq_false (by omega)
    have Hr := hide hrd
    have Hb := hide hb
    have Hc := hide hc'
    have Hrun := hide hrun
    clear hl hrd hb hc' hrun hr
    go_enter Try.func14, Try.ntmps14
    go_wp2_with (at_builtin; refine wpList_app rfl _ _ _ rfl rfl rfl Hrun.out ?_)
    go_ret
    exact retsl_mk Hb.out rfl Hc.out Hr.out
end Go.Proofs.Ytincemkjdgbnnaa
