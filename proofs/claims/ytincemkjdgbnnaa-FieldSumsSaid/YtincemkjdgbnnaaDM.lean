/- Walks: package limb, the long division. -/
import Derived.Test.YtincemkjdgbnnaaStep
import Derived.Test.YtincemkjdgbnnaaApp
set_option linter.unusedVariables false
set_option linter.unusedSimpArgs false
namespace Go.Proofs.Ytincemkjdgbnnaa
open Go.RowKit Lm

/-- a digit of a number that is shifted to the right. -/
theorem shr_digit {W i s : Nat} (hs : s < 64) (hs0 : 0 < s) : W / 2 ^ s / B64 ^ i % B64 = (W / B64 ^ i % B64 / 2 ^ s) ||| ((W / B64 ^ (i + 1) % B64) * 2 ^ (64 - s) % B64) := by
  have hsp : 0 < 2 ^ s := Nat.pow_pos (by omega)
  have hB : B64 = 2 ^ s * 2 ^ (64 - s) := by rw [← Nat.pow_add]; unfold B64; congr 1; omega
  generalize hS : 2 ^ s = S at *
  generalize hC : 2 ^ (64 - s) = C at *
  have hCp : 0 < C := by rw [← hC]; exact Nat.pow_pos (by omega)
  rw [Nat.div_div_eq_div_mul, Nat.mul_comm S, ← Nat.div_div_eq_div_mul, Nat.pow_succ, ← Nat.div_div_eq_div_mul W (B64 ^ i)]
  generalize W / B64 ^ i = t
  have ht := Nat.div_add_mod t B64
  have hf := Nat.mod_lt t (show 0 < B64 by decide)
  generalize t / B64 = q at *
  generalize t % B64 = f at *
  have h4 : t / S = q * C + f / S := by rw [← ht, hB, show S * C * q + f = S * (q * C) + f by rw [Nat.mul_assoc, Nat.mul_comm C q], Nat.mul_add_div hsp]
  have h5 : f / S < C := by rw [Nat.div_lt_iff_lt_mul hsp, Nat.mul_comm, ← hB]; exact hf
  have h6 : q * C % B64 = C * (q % S) := by rw [hB, Nat.mul_comm S C, Nat.mul_comm q C, Nat.mul_mod_mul_left]
  have h7 : q % B64 * C % B64 = C * (q % S) := by rw [Nat.mul_comm _ C, hB, Nat.mul_comm S C, Nat.mul_mod_mul_left, Nat.mod_mul_left_mod]
  have h8 : C * (q % S) + f / S < B64 := by
    have : q % S < S := Nat.mod_lt _ hsp
    have : C * (q % S) + C ≤ C * S := by rw [← Nat.mul_succ]; exact Nat.mul_le_mul_left _ this
    rw [hB, Nat.mul_comm S C]; omega
  have h9 : f / S < B64 := by omega
  rw [h4, Nat.add_mod, h6, Nat.mod_eq_of_lt h9, Nat.mod_eq_of_lt h8, h7]
  rw [← hC] at h5 ⊢
  rw [Nat.or_comm]
  exact Nat.two_pow_add_eq_or_of_lt h5 (q % S)
theorem shr_digit0 {W i : Nat} : W / 2 ^ 0 / B64 ^ i % B64 = W / B64 ^ i % B64 / 2 ^ 0 := by simp

/-- one step of a long division, in numbers: W the rest so far, below V B^(j+1). -/
theorem long_step {W V P B : Nat} (hV : 0 < V) (hP : 0 < P) (hW : W < V * (P * B)) :
    W / P < V * B ∧ W % P + P * (W / P % V) = W % (V * P) ∧ W / P / V = W / (V * P) ∧ W % (V * P) < V * P := by
  refine ⟨?_, ?_, ?_, Nat.mod_lt _ (Nat.mul_pos hV hP)⟩
  · rw [Nat.div_lt_iff_lt_mul hP, Nat.mul_assoc, Nat.mul_comm B P]; exact hW
  · rw [Nat.mul_comm V P, Nat.mod_mul]
  · rw [Nat.div_div_eq_div_mul, Nat.mul_comm]

theorem mid_fix {off k m W x : Nat} (hfit : off + k ≤ m) (hx : x < B64 ^ k) (hW : W < B64 ^ (off + k)) :
    mid off (fix B64 k x) (fix B64 m W) = fix B64 m (W % B64 ^ off + B64 ^ off * x) := by
  have hlo : W % B64 ^ off < B64 ^ off := Nat.mod_lt _ (Nat.pow_pos B64_pos)
  have hv : W % B64 ^ off + B64 ^ off * x < B64 ^ (off + k) := by
    rw [Nat.pow_add]
    have : B64 ^ off * x + B64 ^ off ≤ B64 ^ off * B64 ^ k := by rw [← Nat.mul_succ]; exact Nat.mul_le_mul_left _ hx
    omega
  have hvm := Nat.lt_of_lt_of_le hv (Nat.pow_le_pow_right B64_pos hfit)
  apply List.ext_getElem
  · rw [mid_length (by rw [fix_length, fix_length]; exact hfit), fix_length, fix_length]
  · intro j h1 h2
    rw [← nth_of_lt h1, ← nth_of_lt h2]
    rw [fix_length] at h2
    rcases Nat.lt_or_ge j off with hj | hj
    · rw [nth_mid_lt (by rw [fix_length, fix_length]; exact hfit) hj, nth_fix h2, nth_fix h2]
      have e : B64 ^ off = B64 ^ j * (B64 * B64 ^ (off - j - 1)) := by rw [← Nat.pow_succ', ← Nat.pow_add]; congr 1; omega
      have h3 : (W % B64 ^ off + B64 ^ off * x) % B64 ^ off = W % B64 ^ off := by rw [Nat.add_mul_mod_self_left, Nat.mod_mod]
      have key : ∀ y, y / B64 ^ j % B64 = y % B64 ^ off / B64 ^ j % B64 := fun y => by
        rw [e, Nat.mod_mul, Nat.add_mul_div_left _ _ (Nat.pow_pos B64_pos), Nat.div_eq_of_lt (Nat.mod_lt _ (Nat.pow_pos B64_pos)), Nat.zero_add, Nat.mod_mul_right_mod]
      rw [key W, key (W % B64 ^ off + B64 ^ off * x), h3]
    · obtain ⟨i, rfl⟩ : ∃ i, j = off + i := ⟨j - off, by omega⟩
      have h4 : (W % B64 ^ off + B64 ^ off * x) / B64 ^ (off + i) = x / B64 ^ i := by
        rw [Nat.pow_add, ← Nat.div_div_eq_div_mul, Nat.add_mul_div_left _ _ (Nat.pow_pos B64_pos), Nat.div_eq_of_lt hlo, Nat.zero_add]
      rw [nth_fix h2, h4]
      rcases Nat.lt_or_ge i k with hi | hi
      · rw [nth_mid (by rw [fix_length, fix_length]; exact hfit) (by rw [fix_length]; exact hi), nth_fix hi]
      · rw [nth_mid_ge (by rw [fix_length, fix_length]; exact hfit) (by rw [fix_length]; exact hi), nth_fix h2]
        rw [Nat.div_eq_of_lt (Nat.lt_of_lt_of_le hW (Nat.pow_le_pow_right B64_pos (by omega))), Nat.div_eq_of_lt (Nat.lt_of_lt_of_le hx (Nat.pow_le_pow_right B64_pos hi))]

theorem val_mid_digits {W j k m : Nat} (hfit : j + k ≤ m) (hW : W < B64 ^ (j + k)) : val B64 (((fix B64 m W).drop j).take k) = W / B64 ^ j := by
  have hl : (((fix B64 m W).drop j).take k).length = k := by simp [fix_length]; omega
  have h : ((fix B64 m W).drop j).take k = fix B64 k (W / B64 ^ j) := by
    apply List.ext_getElem
    · rw [hl, fix_length]
    · intro i h1 h2
      rw [← nth_of_lt h1, ← nth_of_lt h2]
      rw [hl] at h1
      rw [nth_take h1, nth_drop, nth_fix (by omega), nth_fix h1, Nat.pow_add, Nat.div_div_eq_div_mul]
  rw [h, val_fix_of_lt]
  rw [Nat.div_lt_iff_lt_mul (Nat.pow_pos B64_pos), ← Nat.pow_add, Nat.add_comm]; exact hW

/-- DivMod's answer. -/
def RetDM (w : World) (q r : Nat) (e : Ending) (w' : World) : Prop :=
  ∃ A c A' c', e = .returned (.tuple #[.slice A (digs B64 q).length c, .slice A' (digs B64 r).length c']) ∧ (digs B64 q).length ≤ c ∧ (digs B64 r).length ≤ c' ∧
    Rd w' .u64 A (digs B64 q) ∧ Rd w' .u64 A' (digs B64 r) ∧ Below w.heap.size w w'
theorem retdm_mk {w w' : World} {q r : Nat} {A A' : Option Addr} {n n' c c' : Nat} (hb : Below w.heap.size w w') (hn : (digs B64 q).length = n) (hn' : (digs B64 r).length = n') (h1 : n ≤ c) (h2 : n' ≤ c')
    (h3 : Rd w' .u64 A (digs B64 q)) (h4 : Rd w' .u64 A' (digs B64 r)) : RetDM w q r (.returned (.tuple #[.slice A n c, .slice A' n' c'])) w' := by
  subst hn; subst hn'; exact ⟨A, c, A', c', rfl, h1, h2, h3, h4, hb⟩

theorem norm_shift {x : Nat} (hx : x ≠ 0) (hB : x < B64) : blen x ≤ 64 ∧ 0 < blen x ∧ 2 ^ 63 ≤ x * 2 ^ (64 - blen x) ∧ x * 2 ^ (64 - blen x) < B64 := by
  have h1 := blen_le_of_lt (k := 64) hB
  have h2 := blen_pos hx
  have h3 := blen_le x hx
  have h4 := lt_blen x
  refine ⟨h1, h2, ?_, ?_⟩
  · have : 2 ^ 63 = 2 ^ (blen x - 1) * 2 ^ (64 - blen x) := by rw [← Nat.pow_add]; congr 1; omega
    rw [this]; exact Nat.mul_le_mul_right _ h3
  · have : B64 = 2 ^ blen x * 2 ^ (64 - blen x) := by rw [← Nat.pow_add]; unfold B64; congr 1; omega
    rw [this]; exact Nat.mul_lt_mul_of_pos_right h4 (Nat.pow_pos (by omega))


theorem app_nil (A : Option Addr) (c : Nat) (m : List Nat) (w : World) (hr : Rd w .u64 A m) (hlen : m.length ≤ lim) :
    ∃ A' c' w', (Builtin.append_ #[104, 104] 104 #[.slice none 0 0, .slice A m.length c]).run Try.prog w = .ok (.slice A' m.length c') w' ∧ m.length ≤ c' ∧ Rd w' .u64 A' m ∧ Below w.heap.size w w' := by
  unfold lim at hlen
  obtain ⟨v', w', hrun, hown, hg, _⟩ := app_n (P := Try.prog) (ty := 104) (c := c) Try.underlying104 Try.info_u64 (by omega) (Own.nil w w.heap.size .u64 22) hr (by simp; omega) (Nat.le_refl _)
  rw [List.nil_append] at hown
  obtain ⟨A', c', rfl, hc, hrd⟩ := hown.slice
  exact ⟨A', c', w', hrun, hc, hrd, ⟨hg.os, hg.tape, hg.output, hg.size, fun i hi => hg.block i hi (by simp [Value.ownBlock])⟩⟩

set_option maxRecDepth 100000 in
set_option maxHeartbeats 1600000 in
theorem divmod_small (A A' : Option Addr) (c c' : Nat) (l m : List Nat) (w : World) (hr : Rd w .u64 A l) (hc : l.length ≤ c) (hlim : l.length ≤ lim) (hok : Ok B64 l)
    (hr' : Rd w .u64 A' m) (hc' : m.length ≤ c') (hlim' : m.length ≤ lim) (hok' : Ok B64 m) (hlt : (digs B64 (val B64 l)).length < (digs B64 (val B64 m)).length) :
    Calls Try.prog 69 #[.slice A l.length c, .slice A' m.length c'] w (RetDM w (val B64 l / val B64 m) (val B64 l % val B64 m)) := by
  have hab := cmp_len hlt
  rw [Nat.div_eq_of_lt hab, Nat.mod_eq_of_lt hab]
  go_enter Try.func69, Try.ntmps69
  go_wp2_with fail
  refine (trim_any A c l w hr hc hlim hok).mono ?_
  rintro e w1 ⟨A1, c1, rfl, hc1, hr1, hb1⟩
  go_wp2_with fail
  refine (trim_any A' c' m w1 (hr'.below hb1) hc' hlim' hok').mono ?_
  rintro e w2 ⟨A2, c2, rfl, hc2, hr2, hb2⟩
  have hr1 := hr1.below hb2
  have hb := below_next hb1 hb2
  have l1 := dlen hok
  have hd : decide ((digs B64 (val B64 l)).length < (digs B64 (val B64 m)).length) = true := by simp [hlt]
  obtain ⟨A3, c3, w3, hrun, hc3, hr3, hb3⟩ := app_nil A1 c1 _ w2 hr1 (Nat.le_trans l1 hlim)
  have hbb := below_next hb hb3
  have h5 := trim_any A3 c3 _ w3 hr3 hc3 (Nat.le_trans l1 hlim) (digs_ok B64_ge _)
  rw [val_digs B64_ge] at h5
  have H5 := hide h5
  have Hrun := hide hrun
  clear h5 hb1 hb2 hr hr' hb3 hr2 hr3 hr1 hrun
  go_wp2_with (at_builtin; refine wpList_app rfl _ _ _ rfl rfl rfl Hrun.out ?_)
  refine H5.out.mono ?_
  rintro e w4 ⟨A4, c4, rfl, hc4, hr4, hb4⟩
  go_wp2_with fail
  go_ret2
  exact retdm_mk (below_next hbb hb4) (by rw [digs_zero]; rfl) rfl (Nat.le_refl _) hc4 (by rw [digs_zero]; exact Rd.nil _ _ _) hr4

end Go.Proofs.Ytincemkjdgbnnaa
