/- Walks: limb.DivMod once more: the quotient lies in a block of its own. -/
import Derived.Test.YtincemkjdgbnnaaTwE
set_option linter.unusedVariables false
set_option linter.unusedSimpArgs false
namespace Go.Proofs.Ytincemkjdgbnnaa
open Go.RowKit Lm

/-- the answer of a function that hands back a part of what it got. -/
def RetSA (A : Option Addr) (w : World) (k : IntKind) (l : List Nat) (e : Ending) (w' : World) : Prop :=
  ∃ c, e = .returned (.slice A l.length c) ∧ l.length ≤ c ∧ Rd w' k A l ∧ Below w.heap.size w w'
theorem retsa_mk {w w' : World} {k : IntKind} {l : List Nat} {A : Option Addr} {n c : Nat} (hb : Below w.heap.size w w') (hn : l.length = n) (hnc : n ≤ c) (hr : Rd w' k A l) :
    RetSA A w k l (.returned (.slice A n c)) w' := by subst hn; exact ⟨c, rfl, hnc, hr, hb⟩
/-- DivMod's answer, the quotient in a new block. -/
def RetDF (w : World) (q r : Nat) (e : Ending) (w' : World) : Prop :=
  ∃ b off c A' c', e = .returned (.tuple #[.slice (some ⟨b, off, none⟩) (digs B64 q).length c, .slice A' (digs B64 r).length c']) ∧ w.heap.size ≤ b ∧ (digs B64 q).length ≤ c ∧ (digs B64 r).length ≤ c' ∧
    Rd w' .u64 (some ⟨b, off, none⟩) (digs B64 q) ∧ Rd w' .u64 A' (digs B64 r) ∧ Below w.heap.size w w'

set_option maxHeartbeats 400000 in
theorem trim_at (A : Option Addr) (c : Nat) (l : List Nat) (w : World) (hr : Rd w .u64 A l) (hc : l.length ≤ c) (hlim : l.length ≤ lim) (hok : Lm.Ok B64 l) :
    Calls Try.prog 113 #[.slice A l.length c] w (RetSA A w .u64 (Lm.digs B64 (Lm.val B64 l))) := by
  unfold lim at hlim
  generalize hlen : l.length = len at *
  have hlen := hide hlen
  go_enter Try.func113, Try.ntmps113
  go_wp2
  go_loop [3] (fun s => ∃ n : Nat, n ≤ len ∧ s = .int .i64 n ∧ Hid (∀ i, n ≤ i → i < len → nth l i = 0)) (fun s => (intOf s).toNat)
  case atStart => exact ⟨len, Nat.le_refl _, rfl, fun i h1 h2 => by omega⟩
  case round =>
    obtain ⟨n, hn, rfl, hz⟩ := hrel
    by_cases h0 : 0 < n
    · obtain ⟨b, off, rfl, hrow⟩ := hr (by rw [hlen.out]; omega)
      have hcell := hrow (n - 1) (by rw [hlen.out]; omega)
      clear hrow
      by_cases hz0 : nth l (n - 1) = 0
      · have hd : ((nth l (n - 1) : Int) == 0) = true := by simp [hz0]
        go_wp2_with fail
        exact ⟨⟨n - 1, by omega, by rw [show ((n - 1 : Nat) : Int) = (n : Int) - 1 from by omega], fun i h1 h2 => by
          rcases Nat.lt_or_ge i n with h3 | h3
          · rw [show i = n - 1 from by omega]; exact hz0
          · exact hz.out i h3 h2⟩, by simp [intOf]; omega⟩
      · have hd : ((nth l (n - 1) : Int) == 0) = false := by rw [beq_eq_false_iff_ne]; omega
        have hfin := hide (take_trim hok (n := n) (by rw [hlen.out]; omega) (fun i h1 h2 => hz.out i h1 (by rw [← hlen.out]; exact h2)) (fun _ => hz0))
        go_wp2_with fail
        go_ret
        exact retsa_mk (Below.refl _ _) (by rw [← hfin.out, List.length_take, hlen.out]; omega) (Nat.le_refl _) (by rw [← hfin.out]; exact hr.take n)
    · obtain rfl : n = 0 := by omega
      have hfin := hide (take_trim hok (n := 0) (by omega) (fun i h1 h2 => hz.out i h1 (by rw [← hlen.out]; exact h2)) (fun h => absurd h h0))
      go_wp2_with fail
      go_ret
      exact retsa_mk (Below.refl _ _) (by rw [← hfin.out]; simp) (Nat.le_refl _) (by rw [← hfin.out]; exact Rd.nil _ _ _)

set_option maxRecDepth 100000 in
set_option maxHeartbeats 3200000 in
theorem divmod_bigF (A A' : Option Addr) (c c' : Nat) (l m : List Nat) (w : World) (hr : Rd w .u64 A l) (hc : l.length ≤ c) (hlim : l.length < lim) (hok : Ok B64 l)
    (hr' : Rd w .u64 A' m) (hc' : m.length ≤ c') (hlim' : m.length < lim) (hok' : Ok B64 m) (hb0 : val B64 m ≠ 0) (hle : (digs B64 (val B64 m)).length ≤ (digs B64 (val B64 l)).length) :
    Calls Try.prog 69 #[.slice A l.length c, .slice A' m.length c'] w (RetDF w (val B64 l / val B64 m) (val B64 l % val B64 m)) := by
  go_enter Try.func69, Try.ntmps69
  go_wp2_with fail
  refine (trim_any A c l w hr hc (by omega) hok).mono ?_
  rintro e w1 ⟨A1, c1, rfl, hc1, hr1, hb1⟩
  go_wp2_with fail
  refine (trim_any A' c' m w1 (hr'.below hb1) hc' (by omega) hok').mono ?_
  rintro e w2 ⟨A2, c2, rfl, hc2, hr2, hb2⟩
  have hr1 := hr1.below hb2
  have hb := below_next hb1 hb2
  clear hb1 hb2 hr hr'
  have l1 := dlen hok
  have l2 := dlen hok'
  unfold lim at hlim hlim'
  obtain ⟨a, ha⟩ : ∃ a, a = val B64 l := ⟨_, rfl⟩
  obtain ⟨b, hbv⟩ : ∃ b, b = val B64 m := ⟨_, rfl⟩
  have HA := hide ha
  have HB := hide hbv
  rw [← ha] at hc1 hr1 l1 hle ⊢
  rw [← hbv] at hc2 hr2 l2 hle hb0 ⊢
  clear ha hbv
  obtain ⟨n, hn⟩ : ∃ n, (digs B64 b).length = n + 1 := by
    refine ⟨(digs B64 b).length - 1, ?_⟩
    have : (digs B64 b).length ≠ 0 := fun h => hb0 ((digs_eq_nil B64_ge).1 (List.length_eq_zero_iff.1 h))
    omega
  have hLa := digs_lt B64_ge a
  have hva := val_digs B64_ge a
  have hvb := val_digs B64_ge b
  have okL := digs_ok B64_ge a
  have okM := digs_ok B64_ge b
  have htop : nth (digs B64 b) n ≠ 0 := digs_top_ne B64_ge hn
  have HMt := hide (digs_lt B64_ge b)
  rw [hn] at HMt
  have hbl : blen b = 64 * n + blen (nth (digs B64 b) n) := blen_digs (k := 64) (by omega) hn
  have htB : nth (digs B64 b) n < B64 := Ok.getD B64_pos okM _
  obtain ⟨p, hp⟩ : ∃ p, (digs B64 a).length = p := ⟨_, rfl⟩
  generalize digs B64 a = L at *
  generalize digs B64 b = M at *
  rw [hp] at hc1 l1 hle hLa ⊢
  rw [hn] at hc2 l2 hle ⊢
  obtain ⟨b2, off2, rfl, hrow2⟩ := hr2 (by rw [hn]; omega)
  have hcell := hrow2 n (by rw [hn]; omega)
  generalize nth M n = t at *
  obtain ⟨n1, n2, n3, n4⟩ := norm_shift htop htB
  obtain ⟨s, hs⟩ : ∃ s, s = 64 - blen t := ⟨_, rfl⟩
  have hs64 : s < 64 := by omega
  have hsi : (64 : Int) - (blen t : Int) = (s : Int) := by omega
  have hbb1 := lt_blen b
  have hbb2 := blen_le b hb0
  have eB : ∀ k, B64 ^ k = 2 ^ (64 * k) := fun k => by rw [Nat.pow_mul]; rfl
  have hVB : b * 2 ^ s < B64 ^ (n + 1) := by
    rw [eB, show 64 * (n + 1) = blen b + s by omega, Nat.pow_add]
    exact Nat.mul_lt_mul_of_pos_right hbb1 (Nat.pow_pos (by omega))
  have hVt : 2 ^ 63 * B64 ^ n ≤ b * 2 ^ s := by
    rw [eB, ← Nat.pow_add, show 63 + 64 * n = (blen b - 1) + s by omega, Nat.pow_add]
    exact Nat.mul_le_mul_right _ hbb2
  have h2s : 2 ^ s ≤ 2 ^ 63 := Nat.pow_le_pow_right (by omega) (by omega)
  have hAB : a * 2 ^ s < B64 ^ (p + 1) := by
    rw [Nat.pow_succ]
    exact Nat.mul_lt_mul'' hLa (Nat.lt_of_le_of_lt h2s (by decide))
  obtain ⟨d, hd⟩ : ∃ d, d = p - (n + 1) + 1 := ⟨_, rfl⟩
  have hAV : a * 2 ^ s < b * 2 ^ s * B64 ^ d := by
    have e : 2 ^ 63 * B64 ^ n * B64 ^ d = 2 ^ 63 * B64 ^ p := by rw [Nat.mul_assoc, ← Nat.pow_add]; congr 2; omega
    have h1 : 2 ^ 63 * B64 ^ p ≤ b * 2 ^ s * B64 ^ d := by rw [← e]; exact Nat.mul_le_mul_right _ hVt
    have h2 : a * 2 ^ s < B64 ^ p * 2 ^ 63 := by
      have h3 : a * 2 ^ s ≤ a * 2 ^ 63 := Nat.mul_le_mul_left _ h2s
      have h4 : a * 2 ^ 63 < B64 ^ p * 2 ^ 63 := Nat.mul_lt_mul_of_pos_right hLa (by omega)
      omega
    have h5 : a * 2 ^ s < 2 ^ 63 * B64 ^ p := by rw [Nat.mul_comm (2 ^ 63)]; exact h2
    omega
  have HD := hide hd
  have HS := hide hs
  have HV := hide (show ∀ A V : Nat, A = a * 2 ^ s → V = b * 2 ^ s → A / V = a / b ∧ A % V / 2 ^ s = a % b ∧ 0 < V from fun A V h1 h2 => by
    subst h1; subst h2
    have hp : 0 < 2 ^ s := Nat.pow_pos (by omega)
    exact ⟨Nat.mul_div_mul_right _ _ hp, by rw [Nat.mul_mod_mul_right, Nat.mul_div_cancel _ hp], Nat.mul_pos (by omega) hp⟩)
  have hlz := hide (lz64_any t w2 htB)
  rw [hsi] at hlz
  have e1 : IntKind.i64.wrap ((p : Int) - ((n : Int) + 1) + 1) = (d : Int) := by rw [wrap_in] <;> omega
  have hd0 : decide (p < n + 1) = false := by simp; omega
  have hd1 : decide ((p : Int) < (n : Int) + 1) = false := by simp; omega
  have Hva := hide hva
  have Hvb := hide hvb
  have Hp := hide hp
  have Hn := hide hn
  have HhV := hide hVB
  have HhA := hide hAB
  have HAV := hide hAV
  have HhVt := hide hVt
  have Hle := hide hle
  have Hlz2 := hlz
  have i1 : (n : Int) + 1 - 1 = (n : Int) := by omega
  clear hd hs hsi hbb1 hbb2 hbl eB hVB hAB hAV h2s hva hvb hp hn n1 n2 n3 n4 hLa hVt hrow2 htop
  go_wp2_with fail
  refine hlz.out.mono ?_
  rintro e w2' ⟨rfl, rfl⟩
  go_wp2_with fail
  have hsv := shifted_n _ c2 M s (n + 1) w2' hr2 (by rw [Hn.out]; exact hc2) okM hs64 (by rw [Hn.out]; exact Nat.le_refl _) (by unfold lim; omega) (by omega) (by rw [Hvb.out]; exact HhV.out)
  rw [show ((n + 1 : Nat) : Int) = (n : Int) + 1 from rfl, Hn.out, Hvb.out] at hsv
  refine hsv.mono ?_
  clear hsv
  rintro e w3 ⟨bv, rfl, hbv, hbv2, hb3⟩
  have hr1 := hr1.below hb3
  have hb := below_next hb hb3
  clear hb3 hr2
  go_wp2_with fail
  have hsu := shifted_n _ c1 L s (p + 1) w3 hr1 (by rw [Hp.out]; exact hc1) okL hs64 (by rw [Hp.out]; omega) (by unfold lim; omega) (by omega) (by rw [Hva.out]; exact HhA.out)
  rw [show ((p + 1 : Nat) : Int) = (p : Int) + 1 from rfl, Hp.out, Hva.out] at hsu
  refine hsu.mono ?_
  clear hsu
  rintro e w4 ⟨bu, rfl, hbu, hbu2, hb4⟩
  have hne1 : bv ≠ bu := by have := hbv.lt; omega
  have hgu : w.heap.size ≤ bu := Nat.le_trans hb.size hbu2
  have hbv := hbv.next hb4
  have hb := below_next hb hb4
  have hmk := mk_u64 (d : Int) d rfl (by have := HD.out; unfold lim; omega)
  have hsz := hb.size
  have hbul := hbu.lt
  have hbvl := hbv.lt
  have hbq := Blk.new w4 .u64 22 (List.replicate d 0)
  have hbu' := hbu.alloc (nblk .u64 22 (List.replicate d 0))
  have hbv' := hbv.alloc (nblk .u64 22 (List.replicate d 0))
  have hb' := below_alloc hb (nblk .u64 22 (List.replicate d 0))
  obtain ⟨bq, hbqe⟩ : ∃ q, q = w4.heap.size := ⟨_, rfl⟩
  have hqu : bq ≠ bu := by omega
  have hqv : bq ≠ bv := by omega
  obtain ⟨AA, hAA⟩ : ∃ A, A = a * 2 ^ s := ⟨_, rfl⟩
  obtain ⟨VV, hVV⟩ : ∃ V, V = b * 2 ^ s := ⟨_, rfl⟩
  obtain ⟨hq1, hq2, hV0⟩ := HV.out AA VV hAA hVV
  have hdw : DW w (w4.alloc (nblk .u64 22 (List.replicate d 0))) bu bv bq p n d s AA VV d := by
    refine ⟨?_, by rw [hVV]; exact hbv', ?_, hb'⟩
    · rw [hAA, hVV, Nat.mod_eq_of_lt HAV.out]; exact hbu'
    · have hu := up_full (F := fix B64 d 0) (G := fix B64 d (AA / VV)) (by rw [fix_length, fix_length])
      rw [fix_length] at hu
      rw [hu, ← zeros_eq, hbqe]; exact hbq
  have HhV := HhV.out
  have HhVt := HhVt.out
  rw [← hVV] at HhV HhVt
  have HhVB := hide HhV
  have HhVtt := hide HhVt
  have hubig : bu < w4.heap.size := hbul
  have hgq : w.heap.size ≤ bq := by omega
  have Hq1 := hide hq1
  have Hq2 := hide hq2
  have Hdw := hide hdw
  have HAe := hide hAA
  have HVe := hide hVV
  clear hdw hbq hbu' hbv' hb' hq1 hq2 hAA hVV hbu hbv HhV HhVt hb hr1 hbul hbvl hubig
  go_wp2_with fail
  rw [← hbqe]
  have Hbqe := hide hbqe
  clear hbqe
  go_loopw [11] (fun j wr => ∃ k : Nat, k ≤ d ∧ j = .int .i64 ((k : Int) - 1) ∧ DW w wr bu bv bq p n d s AA VV k) (fun j _ => (intOf j + 1).toNat)
  case atStart => exact ⟨d, Nat.le_refl _, val_int (by have := HD.out; omega), by first | exact Hdw.out | (rw [Hbqe.out] at Hdw; exact Hdw.out)⟩
  case round =>
    obtain ⟨k, hk, rfl, hdw⟩ := hrel
    clear Hdw
    rcases k with _ | k
    · have Hdw3 := hide hdw
      have d0 : decide ((0 : Int) ≤ ((0 : Nat) : Int) - 1) = false := by decide
      have hmk2 := mk_u64 ((n : Int) + 1) (n + 1) (by omega) (by unfold lim; omega)
      clear hdw
      have hu0 := hide (show Blk wr bu 22 .u64 (fix B64 (p + 1) (AA % VV)) by have := Hdw3.out.u; rwa [Nat.pow_zero, Nat.mul_one] at this)
      have hq0 := hide (show Blk wr bq 22 .u64 (fix B64 d (a / b)) by have := Hdw3.out.q; rwa [up_zero, Hq1.out] at this)
      have hb0 := hide Hdw3.out.below
      have hrq : bq ≠ wr.heap.size := by have := hq0.out.lt; omega
      have hru : bu ≠ wr.heap.size := by have := hu0.out.lt; omega
      have hgr : w.heap.size ≤ wr.heap.size := hb0.out.size
      clear Hdw3
      obtain ⟨br, hbr⟩ : ∃ r, r = wr.heap.size := ⟨_, rfl⟩
      have hw5 : Hid (Blk (wr.alloc (nblk .u64 22 (List.replicate (n + 1) 0))) br 22 .u64 (List.replicate (n + 1) 0) ∧ Blk (wr.alloc (nblk .u64 22 (List.replicate (n + 1) 0))) bu 22 .u64 (fix B64 (p + 1) (AA % VV)) ∧
        Blk (wr.alloc (nblk .u64 22 (List.replicate (n + 1) 0))) bq 22 .u64 (fix B64 d (a / b)) ∧ Below w.heap.size w (wr.alloc (nblk .u64 22 (List.replicate (n + 1) 0)))) :=
        ⟨by rw [hbr]; exact Blk.new wr .u64 22 _, hu0.out.alloc _, hq0.out.alloc _, below_alloc hb0.out _⟩
      rw [← hbr] at hrq hru hgr
      go_wp2_with fail
      rw [← hbr]
      clear hu0 hq0 hb0 hbr hmk2
      generalize wr.alloc (nblk .u64 22 (List.replicate (n + 1) 0)) = w5 at *
      obtain ⟨R, hR⟩ : ∃ R, R = AA % VV / 2 ^ s := ⟨_, rfl⟩
      have HR := hide hR
      clear hR
      have hple : n + 1 ≤ p := hle
      go_loopw [12, 69] (fun _ k wx => ∃ i : Nat, i ≤ n + 1 ∧ k = .int .i64 (i : Int) ∧ Hid (Blk wx bu 22 .u64 (fix B64 (p + 1) (AA % VV))) ∧ Hid (Blk wx bq 22 .u64 (fix B64 d (a / b))) ∧
        Blk wx br 22 .u64 (ch B64 i (R % B64 ^ i) (List.replicate (n + 1) 0)) ∧ Hid (Below w.heap.size w wx)) (fun _ k _ => n + 1 - (intOf k).toNat)
      case atStart => exact ⟨0, Nat.zero_le _, rfl, hw5.out.2.1, hw5.out.2.2.1, by rw [ch_zero]; exact hw5.out.1, hw5.out.2.2.2⟩
      case round =>
        obtain ⟨i, hi, rfl, hu, hq, hr, hbw⟩ := hrel
        clear hw5
        have hlen : (ch B64 i (R % B64 ^ i) (List.replicate (n + 1) 0)).length = n + 1 := by rw [ch_length (by simp; omega)]; simp
        have hRm : R % B64 ^ i < B64 ^ i := Nat.mod_lt _ (Nat.pow_pos B64_pos)
        by_cases hlt : i < n + 1
        · have hcu := hu.out.cell (i := i) (by rw [fix_length]; omega)
          have hcu1 := hu.out.cell (i := i + 1) (by rw [fix_length]; omega)
          rw [nth_fix (by omega)] at hcu hcu1
          have Hny := hide (show nth (fix B64 (p + 1) (AA % VV)) (i + 1) = AA % VV / B64 ^ (i + 1) % B64 from nth_fix (by omega))
          have hcr := hr.cell (i := i) (by rw [hlen]; exact hlt)
          have hfr := hr.frozen i
          have hxB : AA % VV / B64 ^ i % B64 < B64 := Nat.mod_lt _ B64_pos
          have hyB : AA % VV / B64 ^ (i + 1) % B64 < B64 := Nat.mod_lt _ B64_pos
          rcases Nat.eq_zero_or_pos s with hs0 | hs0
          · subst hs0
            have hdig : AA % VV / B64 ^ i % B64 / 2 ^ 0 = R / B64 ^ i % B64 := by rw [HR.out]; exact (shr_digit0).symm
            rw [Nat.pow_zero, Nat.div_one] at hdig
            have H2 := hide (show Blk (wr.setCell ⟨br, i, none⟩ (.int .u64 ((AA % VV / B64 ^ i % B64 : Nat) : Int))) br 22 .u64 (ch B64 (i + 1) (R % B64 ^ (i + 1)) (List.replicate (n + 1) 0)) by
              have h1 := hr.set_ i (E := _) (z := AA % VV / B64 ^ i % B64) rfl
              rw [ch_set (by simp; omega) hRm hxB, hdig, ← mod_pow_succ, ← hdig] at h1
              exact h1)
            have hu2 := hide (hu.out.far (p := ⟨br, i, none⟩) hru (.int .u64 ((AA % VV / B64 ^ i % B64 : Nat) : Int)))
            have hq2 := hide (hq.out.far (p := ⟨br, i, none⟩) hrq (.int .u64 ((AA % VV / B64 ^ i % B64 : Nat) : Int)))
            have hb2 := hide (hbw.out.setCell (p := ⟨br, i, none⟩) hgr (.int .u64 ((AA % VV / B64 ^ i % B64 : Nat) : Int)))
            clear hr hdig hcu1 hyB
            generalize AA % VV / B64 ^ i % B64 = x at *
            go_wp2_with fail
            exact ⟨⟨i + 1, by omega, by simp, hu2, hq2, H2.out, hb2⟩, by simp [intOf]; omega⟩
          · have hdig := shr_digit (W := AA % VV) (i := i) hs64 hs0
            rw [← HR.out] at hdig
            have hx2 : AA % VV / B64 ^ i % B64 / 2 ^ s < B64 := Nat.lt_of_le_of_lt (Nat.div_le_self _ _) hxB
            have hd0' : decide ((0 : Int) < (s : Int)) = true := by simp; omega
            have hdB : R / B64 ^ i % B64 < B64 := Nat.mod_lt _ B64_pos
            have hch := ch_set (L := List.replicate (n + 1) 0) (by simp; omega) hRm hdB
            rw [← mod_pow_succ] at hch
            have Hch := hide hch
            have Hdig := hide hdig
            have Hr := hide hr
            clear hr hdig hch hdB
            have Hlen := hide hlen
            clear hlen
            generalize R / B64 ^ i % B64 = dg at *
            generalize AA % VV / B64 ^ i % B64 = x at *
            generalize AA % VV / B64 ^ (i + 1) % B64 = y at *
            obtain ⟨z1, hz1⟩ : ∃ z, z = x / 2 ^ s := ⟨_, rfl⟩
            have ez : (x : Int) / 2 ^ s = (z1 : Int) := by rw [hz1]; simp
            rw [← hz1] at Hdig hx2
            clear hz1
            have HA1 := hide (Hr.out.set_ i (E := (z1 : Int)) (z := z1) rfl)
            have hu2 := hide (hu.out.far (p := ⟨br, i, none⟩) hru (.int .u64 (z1 : Int)))
            have hq2 := hide (hq.out.far (p := ⟨br, i, none⟩) hrq (.int .u64 (z1 : Int)))
            have hb2 := hide (hbw.out.setCell (p := ⟨br, i, none⟩) hgr (.int .u64 (z1 : Int)))
            clear hu hq hbw
            go_wp2_with fail
            generalize wr.setCell ⟨br, i, none⟩ (.int .u64 (z1 : Int)) = w7 at *
            have hc1' := HA1.out.cell (i := i) (by rw [List.length_set, Hlen.out]; exact hlt)
            rw [nth_set_self (by rw [Hlen.out]; exact hlt)] at hc1'
            have hf1' := HA1.out.frozen i
            have hc2' := hu2.out.cell (i := i + 1) (by rw [fix_length]; omega)
            rw [Hny.out] at hc2'
            clear hcu hcu1 hcr hfr ez
            obtain ⟨u, hu'⟩ : ∃ u, u = 64 - s := ⟨_, rfl⟩
            have hui : (64 : Int) - (s : Int) = (u : Int) := by omega
            rw [← hu'] at Hdig
            have iw1 := wrap_in (u : Int) (by omega) (by omega)
            have iw2 := wrap_in ((i : Int) + 1) (by omega) (by omega)
            have Hu' := hide hu'
            clear hu'
            have iw3 : ((i : Int) + 1).toNat = i + 1 := by omega
            have iw4 : (i : Int) + 1 < (p : Int) + 1 := by omega
            have iw5 : (0 : Int) ≤ (i : Int) + 1 := by omega
            go_region
            go_wp2_with fail
            have hE : bits .or .u64 (z1 : Int) (IntKind.u64.wrap ((y : Int) * 2 ^ u)) = ((z1 ||| (y * 2 ^ u % B64) : Nat) : Int) := by
              rw [← or_u64 hx2 (Nat.mod_lt _ B64_pos)]
              congr 1
            have hB3 := Blk.drew (HA1.out.set_ i hE)
            rw [List.set_set, ← Hdig.out, Hch.out] at hB3
            exact ⟨⟨i + 1, by omega, by simp, (hu2.out.far (p := ⟨br, i, none⟩) hru _).drew, (hq2.out.far (p := ⟨br, i, none⟩) hrq _).drew, hB3, below_drew (hb2.out.setCell (p := ⟨br, i, none⟩) hgr _)⟩, by simp [intOf]; omega⟩
        · obtain rfl : i = n + 1 := by omega
          have hRb : R = a % b := by rw [HR.out, Hq2.out]
          have hab : a % b < B64 ^ (n + 1) := by
            have h1 := Nat.mod_lt a (show 0 < b by omega)
            have h2 := HMt.out
            omega
          have haq : a / b < B64 ^ d := by
            have h4 : AA / VV < B64 ^ d := by rw [HAe.out, HVe.out, Nat.div_lt_iff_lt_mul (by rw [← HVe.out]; exact hV0), Nat.mul_comm (B64 ^ d)]; exact HAV.out
            rwa [Hq1.out] at h4
          rw [hRb, Nat.mod_eq_of_lt hab, ch_full' (by simp)] at hr
          have ht1 := trim_at (some ⟨bq, 0, none⟩) d _ wr (fun _ => ⟨_, _, rfl, hq.out.row0⟩) (by rw [fix_length]; exact Nat.le_refl _) (by rw [fix_length]; have := HD.out; unfold lim; omega) (fix_ok B64_pos _ _)
          rw [fix_length, val_fix_of_lt haq] at ht1
          have Ht1 := hide ht1
          have Hr2 := hide hr
          clear ht1 hr
          go_wp2_with fail
          refine Ht1.out.mono ?_
          rintro e w8 ⟨c8, rfl, hc8, hr8, hb8⟩
          go_wp2_with fail
          have hr9 := Hr2.out.next hb8
          have ht2 := trim_any (some ⟨br, 0, none⟩) (n + 1) _ w8 (fun _ => ⟨_, _, rfl, hr9.row0⟩) (by rw [fix_length]; exact Nat.le_refl _) (by rw [fix_length]; unfold lim; omega) (fix_ok B64_pos _ _)
          rw [fix_length, val_fix_of_lt hab] at ht2
          refine ht2.mono ?_
          rintro e w9 ⟨A9, c9, rfl, hc9, hr9', hb9⟩
          go_wp2_with fail
          go_ret2
          rw [← HA.out, ← HB.out]
          exact ⟨bq, 0, _, _, _, rfl, hgq, hc8, hc9, hr8.below hb9, hr9', below_next (below_next hbw.out hb8) hb9⟩
    · rw [show ((k + 1 : Nat) : Int) - 1 = (k : Int) from by omega]
      have hkd := HD.out
      have hWlt : AA % (VV * B64 ^ (k + 1)) < VV * (B64 ^ k * B64) := by
        rw [Nat.pow_succ]; exact Nat.mod_lt _ (Nat.mul_pos hV0 (Nat.mul_pos (Nat.pow_pos B64_pos) B64_pos))
      have hst := step_fix bu k (p + 1 - k) bv (n + 1) p n _ VV wr hdw.u (by omega) (by omega) hdw.v HhVB.out hne1 (by unfold lim; omega) HhVtt.out hWlt
      have hqd : AA % (VV * B64 ^ (k + 1)) / (VV * B64 ^ k) = AA / VV / B64 ^ k % B64 := by
        rw [Nat.pow_succ, ← Nat.mul_assoc, Nat.mod_mul_right_div_self, Nat.div_div_eq_div_mul]
      have hwd : AA % (VV * B64 ^ (k + 1)) % (VV * B64 ^ k) = AA % (VV * B64 ^ k) := by
        rw [Nat.pow_succ, ← Nat.mul_assoc]; exact Nat.mod_mul_right_mod _ _ _
      rw [hqd, hwd] at hst
      have Hst := hide hst
      have Hdw2 := hide hdw
      clear hst hdw hqd hwd hWlt
      have j0 : (k : Int) + ((n : Int) + 1) + 1 ≤ (p : Int) + 1 := by omega
      have j2 : k + n + 1 ≤ p := by omega
      clear hkd
      have j1 : ((k : Int) + ((n : Int) + 1) + 1).toNat = k + n + 2 := by omega
      go_wp2_with fail
      rw [show k + n + 2 - k = n + 2 by omega]
      refine Hst.out.mono ?_
      rintro e w6 ⟨rfl, hu6, ho6⟩
      have hq6 := ho6.blk Hdw2.out.q hqu
      have hv6 := ho6.blk Hdw2.out.v hne1
      have hb6 : Below w.heap.size w w6 := Only.below Hdw2.out.below ho6 hgu
      have hup : (up (k + 1) (fix B64 d 0) (fix B64 d (AA / VV))).length = d := by rw [up_length (by rw [fix_length, fix_length]), fix_length]
      have hcq := hq6.cell (i := k) (by rw [hup]; omega)
      have hfq := hq6.frozen k
      have HQ := hide (show Blk (w6.setCell ⟨bq, k, none⟩ (.int .u64 ((AA / VV / B64 ^ k % B64 : Nat) : Int))) bq 22 .u64 (up k (fix B64 d 0) (fix B64 d (AA / VV))) by
        have h1 := hq6.set_ k (E := _) (z := AA / VV / B64 ^ k % B64) rfl
        rw [up_set' (by omega)] at h1
        exact h1)
      have HU := hide (hu6.far (p := ⟨bq, k, none⟩) (fun h => hqu h.symm) (.int .u64 ((AA / VV / B64 ^ k % B64 : Nat) : Int)))
      have HV2 := hide (hv6.far (p := ⟨bq, k, none⟩) (fun h => hqv h.symm) (.int .u64 ((AA / VV / B64 ^ k % B64 : Nat) : Int)))
      have HB6 := hide (hb6.setCell (p := ⟨bq, k, none⟩) hgq (.int .u64 ((AA / VV / B64 ^ k % B64 : Nat) : Int)))
      clear hu6 ho6 hq6 hv6 hb6 Hst hup
      generalize AA / VV / B64 ^ k % B64 = qk at *
      go_wp2_with fail
      exact ⟨⟨k, by omega, rfl, ⟨HU.out, HV2.out, HQ.out, HB6.out⟩⟩, by simp [intOf]⟩

end Go.Proofs.Ytincemkjdgbnnaa
