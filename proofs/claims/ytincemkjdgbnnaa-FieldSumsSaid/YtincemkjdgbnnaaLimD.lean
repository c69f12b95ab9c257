/- Walks: package limb, shifting. -/
import Derived.Test.YtincemkjdgbnnaaLimC
set_option linter.unusedVariables false
set_option linter.unusedSimpArgs false
namespace Go.Proofs.Ytincemkjdgbnnaa
open Go.RowKit Lm

/-- a digit of a shifted number. -/
theorem shl_digit {v i s : Nat} (hs : s < 64) : v * 2 ^ s / B64 ^ (i + 1) % B64 = ((v / B64 ^ (i + 1) % B64) * 2 ^ s % B64) ||| (v / B64 ^ i % B64 / 2 ^ (64 - s)) := by
  have hP : 0 < B64 ^ i := Nat.pow_pos (by decide)
  have hsp : 0 < 2 ^ s := Nat.pow_pos (by omega)
  have hB : B64 = 2 ^ s * 2 ^ (64 - s) := by rw [← Nat.pow_add]; unfold B64; congr 1; omega
  generalize hS : 2 ^ s = S at *
  generalize hC : 2 ^ (64 - s) = C at *
  have hCp : 0 < C := by rw [← hC]; exact Nat.pow_pos (by omega)
  generalize hP2 : B64 ^ i = P at *
  rw [Nat.pow_succ, hP2]
  have hv := Nat.div_add_mod v P
  have hr := Nat.mod_lt v hP
  rw [← Nat.div_div_eq_div_mul v P B64, ← Nat.div_div_eq_div_mul (v * S) P B64]
  generalize v / P = t at *
  generalize v % P = r at *
  have h1 : v * S / P = t * S + r * S / P := by
    rw [← hv, Nat.add_mul, Nat.mul_assoc, Nat.mul_add_div hP]
  have h2 : r * S / P < S := by rw [Nat.div_lt_iff_lt_mul hP, Nat.mul_comm S]; exact Nat.mul_lt_mul_of_pos_right hr hsp
  have h3 : v * S / P / B64 = t / C := by
    rw [h1, hB, ← Nat.div_div_eq_div_mul, Nat.mul_comm t S, Nat.mul_add_div hsp, Nat.div_eq_of_lt h2, Nat.add_zero]
  rw [h3]
  have ht := Nat.div_add_mod t B64
  have hf := Nat.mod_lt t (show 0 < B64 by decide)
  generalize t / B64 = q at *
  generalize t % B64 = f at *
  have h4 : t / C = q * S + f / C := by
    rw [← ht, hB, show S * C * q + f = C * (q * S) + f by rw [Nat.mul_comm S C, Nat.mul_assoc, Nat.mul_comm S q], Nat.mul_add_div hCp]
  have h5 : f / C < S := by rw [Nat.div_lt_iff_lt_mul hCp, ← hB]; exact hf
  have h6 : q * S % B64 = S * (q % C) := by rw [hB, Nat.mul_comm q S, Nat.mul_mod_mul_left]
  have h7 : q % B64 * S % B64 = S * (q % C) := by
    rw [Nat.mul_comm _ S, hB, Nat.mul_mod_mul_left, Nat.mod_mul_left_mod]
  have h8 : S * (q % C) + f / C < B64 := by
    have : q % C < C := Nat.mod_lt _ hCp
    have : S * (q % C) + S ≤ S * C := by rw [← Nat.mul_succ]; exact Nat.mul_le_mul_left _ this
    rw [hB]; omega
  have h9 : f / C < B64 := by omega
  rw [h4, Nat.add_mod, h6, Nat.mod_eq_of_lt h9, Nat.mod_eq_of_lt h8, h7]
  rw [← hS] at h5 ⊢
  exact (Nat.two_pow_add_eq_or_of_lt h5 (q % C))

theorem shl_digit0 {v s : Nat} : v * 2 ^ s / B64 ^ 0 % B64 = (v / B64 ^ 0 % B64) * 2 ^ s % B64 := by
  simp [Nat.mod_mul_mod]

/-- the places from n on are those of F', the others those of F. -/
def up (n : Nat) (F G : List Nat) : List Nat := F.take n ++ G.drop n
theorem up_full {F G : List Nat} (h : F.length = G.length) : up F.length F G = F := by rw [up, List.take_of_length_le (Nat.le_refl _), List.drop_of_length_le (by omega), List.append_nil]
theorem up_zero (F G : List Nat) : up 0 F G = G := by simp [up]
theorem up_length {n : Nat} {F G : List Nat} (h : F.length = G.length) : (up n F G).length = F.length := by simp [up]; omega
theorem nth_up_lt {n i : Nat} {F G : List Nat} (hi : i < n) (hF : i < F.length) : nth (up n F G) i = nth F i := by
  rw [up, nth_append_left (by rw [List.length_take]; omega), nth_take hi]
theorem up_set {n : Nat} {F G : List Nat} (h : F.length = G.length) (hn : n < F.length) : (up (n + 1) F G).set n (nth G n) = up n F G := by
  apply List.ext_getElem
  · simp [up]; omega
  · intro j h1 h2
    have hj : j < F.length := by rw [up_length h] at h2; exact h2
    have e1 := nth_of_lt h1
    have e2 := nth_of_lt h2
    rw [← e1, ← e2]
    by_cases e : n = j
    · subst e
      rw [nth_set_self (by rw [up_length h]; exact hn)]
      rw [up, nth_append_right (by rw [List.length_take]; omega), List.length_take, nth_drop]
      congr 1; omega
    · rw [nth_set_ne e]
      rcases Nat.lt_or_ge j n with hlt | hge
      · rw [nth_up_lt (by omega) hj, nth_up_lt hlt hj]
      · rw [up, up, nth_append_right (by rw [List.length_take]; omega), nth_append_right (by rw [List.length_take]; omega), List.length_take, List.length_take, nth_drop, nth_drop]
        congr 1; omega

theorem nth_fix {k n i : Nat} (h : i < k) : nth (fix B64 k n) i = n / B64 ^ i % B64 := by
  rw [nth_of_lt (by rw [fix_length]; exact h), fix_getElem]

theorem pad_fix {l : List Nat} (hok : Ok B64 l) {n : Nat} (h : l.length ≤ n) : l ++ List.replicate (n - l.length) 0 = fix B64 n (val B64 l) :=
  val_inj (hok.append (Ok.replicate B64_pos _)) (fix_ok B64_pos _ _) (by rw [fix_length, List.length_append, List.length_replicate]; omega)
    (by rw [val_append, val_replicate, val_fix_of_lt (Nat.lt_of_lt_of_le (val_lt hok) (Nat.pow_le_pow_right B64_pos h))]; simp)

/-- a call hands back a slice of a block of its own. -/
def RetBlk (w : World) (t : TypeId) (k : IntKind) (L : List Nat) (e : Ending) (w' : World) : Prop :=
  ∃ b, e = .returned (.slice (some ⟨b, 0, none⟩) L.length L.length) ∧ Blk w' b t k L ∧ w.heap.size ≤ b ∧ Below w.heap.size w w'
theorem retblk_mk {w w' : World} {t : TypeId} {k : IntKind} {L : List Nat} {b n : Nat} (hb : Below w.heap.size w w') (hn : L.length = n) (h : Blk w' b t k L) (hg : w.heap.size ≤ b) :
    RetBlk w t k L (.returned (.slice (some ⟨b, 0, none⟩) n n)) w' := by subst hn; exact ⟨b, rfl, h, hg, hb⟩

set_option maxRecDepth 100000 in
set_option maxHeartbeats 800000 in
theorem shifted_any (A : Option Addr) (c : Nat) (l : List Nat) (s n : Nat) (w : World) (hr : Rd w .u64 A l) (hc : l.length ≤ c) (hok : Ok B64 l)
    (hs : s < 64) (hln : l.length ≤ n) (hn : n ≤ lim) (hn0 : 0 < n) (hfit : val B64 l * 2 ^ s < B64 ^ n) :
    Calls Try.prog 116 #[.slice A l.length c, .int .i64 (s : Int), .int .i64 (n : Int)] w (RetBlk w 22 .u64 (fix B64 n (val B64 l * 2 ^ s))) := by
  have hmk := mk_u64 (n : Int) n rfl hn
  have hn2 := hn
  unfold lim at hn2
  obtain ⟨w1, hcp, hblk, hon⟩ := copy_n (P := Try.prog) (w := w.alloc (nblk .u64 22 (List.replicate n 0))) (dT := 104) (sT := 104) (ty := 3) (off := 0) (dLen := n) (dCap := n) (sCap := c)
    Try.underlying104 (by kernel_rfl) (Blk.new w .u64 22 (List.replicate n 0)) (hr.below ((Below.refl _ _).alloc (Nat.le_refl _) _)) (by simp)
  rw [Nat.min_eq_left hln] at hcp hblk
  rw [List.take_zero, List.nil_append, List.take_of_length_le hln, Nat.zero_add, List.drop_replicate, pad_fix hok hln] at hblk
  have hbw : Below w.heap.size w w1 := Only.below ((Below.refl _ _).alloc (Nat.le_refl _) _) hon (Nat.le_refl _)
  have HF : ∃ F, F = fix B64 n (val B64 l) := ⟨_, rfl⟩
  obtain ⟨F, hF⟩ := HF
  obtain ⟨G, hG⟩ : ∃ G, G = fix B64 n (val B64 l * 2 ^ s) := ⟨_, rfl⟩
  have HF := hide hF
  have HG := hide hG
  have hFl : F.length = n := by rw [hF, fix_length]
  have hGl : G.length = n := by rw [hG, fix_length]
  have hFok : Ok B64 F := by rw [hF]; exact fix_ok B64_pos _ _
  rw [← hF] at hblk
  have hu := up_full (F := F) (G := G) (by rw [hFl, hGl])
  rw [hFl] at hu
  have Hu := hide hu
  have Hbw := hide hbw
  have Hblk := hide hblk
  have HFl := hide hFl
  have HGl := hide hGl
  clear hu hF hG hFl hGl hon hbw hblk hr
  go_enter Try.func116, Try.ntmps116
  go_wp2_with fail
  clear hcp hmk
  rcases Nat.eq_zero_or_pos s with h0 | h0
  · subst h0
    have hG2 := hide (show F = fix B64 n (val B64 l * 2 ^ 0) by rw [HF.out]; simp)
    go_loopw [8] (fun k wr => k = .int .i64 ((n : Int) - 1) ∧ wr = w1) (fun _ _ => 0)
    case atStart => exact ⟨rfl, rfl⟩
    case round =>
      obtain ⟨rfl, rfl⟩ := hrel
      have d0 : decide ((0 : Int) ≤ (n : Int) - 1) = true := by rw [decide_eq_true_iff]; omega
      go_wp2_with fail
      go_ret
      rw [hG2.out] at Hblk
      exact retblk_mk Hbw.out (by rw [fix_length]) Hblk.out (Nat.le_refl _)
  · go_loopw [8] (fun k wr => ∃ m : Nat, m ≤ n ∧ k = .int .i64 ((m : Int) - 1) ∧ Below w.heap.size w wr ∧ Blk wr w.heap.size 22 .u64 (up m F G)) (fun k _ => (intOf k + 1).toNat)
    case atStart => exact ⟨n, Nat.le_refl _, rfl, Hbw.out, by rw [Hu.out]; exact Hblk.out⟩
    case round =>
      obtain ⟨m, hm, rfl, hbw, hblk⟩ := hrel
      have Hbw2 := hide hbw
      have Hblk2 := hide hblk
      clear hbw hblk
      rcases m with _ | m
      · have d0 : decide ((0 : Int) ≤ ((0 : Nat) : Int) - 1) = false := by decide
        rw [up_zero, HG.out] at Hblk2
        go_wp2_with fail
        go_ret
        exact retblk_mk Hbw2.out (by rw [fix_length]) Hblk2.out (Nat.le_refl _)
      · rw [show ((m + 1 : Nat) : Int) - 1 = (m : Int) from by omega]
        have hlen := up_length (n := m + 1) (F := F) (G := G) (by rw [HFl.out, HGl.out])
        have hcell := Hblk2.out.cell (i := m) (by rw [hlen, HFl.out]; omega)
        rw [nth_up_lt (by omega) (by rw [HFl.out]; omega)] at hcell
        have hfr := Hblk2.out.frozen m
        have hx : nth F m < B64 := Ok.getD B64_pos hFok _
        have d0 : decide ((0 : Int) < (s : Int)) = true := by simp; omega
        have e1 : ∀ x : Nat, IntKind.u64.wrap ((x : Int) * 2 ^ s) = ((x * 2 ^ s % B64 : Nat) : Int) := fun x => by
          rw [IntKind.wrap_u64, B64_eq]; simp
        rcases Nat.eq_zero_or_pos m with hm0 | hm0
        · subst hm0
          have HB := hide (show Blk (wr.setCell ⟨w.heap.size, 0, none⟩ (.int .u64 (IntKind.u64.wrap ((nth F 0 : Int) * 2 ^ s)))) w.heap.size 22 .u64 (up 0 F G) by
            have h1 := Hblk2.out.set_ 0 (e1 (nth F 0))
            rw [← up_set (by rw [HFl.out, HGl.out]) (by rw [HFl.out]; exact hn0)]
            have : nth G 0 = nth F 0 * 2 ^ s % B64 := by rw [HG.out, HF.out, nth_fix hn0, nth_fix hn0]; exact shl_digit0
            rw [this]; exact h1)
          clear e1
          go_wp2_with fail
          exact ⟨⟨0, by omega, by rfl, Hbw2.out.setCell (Nat.le_refl _) _, HB.out⟩, by simp [intOf]⟩
        · obtain ⟨m, rfl⟩ : ∃ k, m = k + 1 := ⟨m - 1, by omega⟩
          have HB1 := hide (Hblk2.out.set_ (m + 1) (e1 (nth F (m + 1))))
          have HW1 := hide (Hbw2.out.setCell (p := ⟨w.heap.size, m + 1, none⟩) (Nat.le_refl _) (.int .u64 (IntKind.u64.wrap ((nth F (m + 1) : Int) * 2 ^ s))))
          clear e1
          go_wp2_with fail
          have HB1 := HB1.out
          have HW1 := HW1.out
          generalize wr.setCell ⟨w.heap.size, m + 1, none⟩ (.int .u64 (IntKind.u64.wrap ((nth F (m + 1) : Int) * 2 ^ s))) = w3 at *
          have hcell1 := HB1.cell (i := m + 1) (by rw [List.length_set, hlen, HFl.out]; omega)
          rw [nth_set_self (by rw [hlen, HFl.out]; omega)] at hcell1
          have hcell2 := HB1.cell (i := m) (by rw [List.length_set, hlen, HFl.out]; omega)
          rw [nth_set_ne (by omega), nth_up_lt (by omega) (by rw [HFl.out]; omega)] at hcell2
          have hfr1 := HB1.frozen (m + 1)
          have hd : nth G (m + 1) = nth F (m + 1) * 2 ^ s % B64 ||| nth F m / 2 ^ (64 - s) := by
            rw [HG.out, HF.out, nth_fix (by omega), nth_fix (by omega), nth_fix (by omega)]
            exact shl_digit hs
          obtain ⟨u, hu⟩ : ∃ u, u = 64 - s := ⟨_, rfl⟩
          have hu' : (64 : Int) - (s : Int) = (u : Int) := by omega
          rw [← hu] at hd
          have HU := hide hu
          clear hu
          have Hd := hide hd
          have HB2 := hide HB1
          have HW2 := hide HW1
          have hy : nth F m < B64 := Ok.getD B64_pos hFok _
          clear hd HB1 HW1 hcell hfr Hblk2 Hbw2
          have Hlen := hide hlen
          clear hlen
          have hx1 : nth F (m + 1) * 2 ^ s % B64 < B64 := Nat.mod_lt _ B64_pos
          generalize nth F (m + 1) * 2 ^ s % B64 = x1 at *
          generalize nth F m = y at *
          have iw := wrap_in (u : Int) (by omega) (by have := HU.out; omega)
          have iw1 := wrap_in (m : Int) (by omega) (by omega)
          have iw2 : IntKind.i64.wrap ((m : Int) + 1 - 1) = (m : Int) := by rw [wrap_in] <;> omega
          go_region
          go_wp2_with fail
          have hE : bits .or .u64 (x1 : Int) ((y : Int) / 2 ^ u) = ((x1 ||| y / 2 ^ u : Nat) : Int) := by
            rw [← or_u64 hx1 (Nat.lt_of_le_of_lt (Nat.div_le_self _ _) hy)]; simp
          have HB3 := Blk.drew (HB2.out.set_ (m + 1) hE)
          rw [List.set_set, ← Hd.out, up_set (by rw [HFl.out, HGl.out]) (by rw [HFl.out]; omega)] at HB3
          exact ⟨⟨m + 1, by omega, by simp, below_drew (HW2.out.setCell (Nat.le_refl _) _), HB3⟩, by simp [intOf]; omega⟩
end Go.Proofs.Ytincemkjdgbnnaa
