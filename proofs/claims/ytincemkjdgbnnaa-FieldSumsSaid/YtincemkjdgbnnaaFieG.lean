/- Walks: package field: New. -/
import Derived.Test.YtincemkjdgbnnaaFieF
set_option linter.unusedVariables false
set_option linter.unusedSimpArgs false
namespace Go.Proofs.Ytincemkjdgbnnaa
open Go.RowKit Lm

/-- a call hands back one of the six fields. -/
def RetK (w : World) (k : Int) (e : Ending) (w' : World) : Prop :=
  ∃ b bm, e = .returned (.tuple #[.pointer (some ⟨b, 0, none⟩), .int .i64 0]) ∧ FQ w' b bm (kP k) (kn k) (ksz k) ∧ w.heap.size ≤ b ∧ w.heap.size ≤ bm ∧ Below w.heap.size w w'

set_option maxRecDepth 100000 in
theorem fnew_c (k : Int) (w : World) (hk : isKind k) : Calls Try.prog 59 #[.int .i64 k] w (RetK w k) := by
  have hK := kok hk
  have hne : pstr k ≠ ⟨#[]⟩ := fun e => by
    have h1 := hK.sz
    rw [e] at h1
    have h2 := hK.n1
    have : (ByteArray.mk #[]).size = 0 := rfl
    omega
  have hpr := hide (prime_any k w)
  have hhex := hide (fun W => hex_any (pstr k) (kn k) W hK.sz (by have := hK.n6; omega) hK.hx)
  rw [hK.vl] at hhex
  have hlen : (digs B64 (kP k)).length = kn k := by
    have h1 := digs_length_le B64_ge hK.lt
    have h2 := digs_lt B64_ge (kP k)
    rcases Nat.lt_or_ge (digs B64 (kP k)).length (kn k) with h | h
    · have h3 := Nat.pow_le_pow_right (n := B64) B64_pos (show (digs B64 (kP k)).length ≤ kn k - 1 by omega)
      have := hK.gt
      omega
    · omega
  have hnew := hide (fun A c W hr hc => new_any A c (fix B64 (kn k) (kP k)) (kP k) (kn k) W hr hc (by rw [fix_length]; have := hK.n6; unfold lim; omega) (fix_ok B64_pos _ _) (val_fix_of_lt hK.lt) hlen hK.n1 hK.n6)
  have hsz := hK.sz
  have hgt : 1 < kP k := by
    have := hK.gt
    have h1 := hK.n1
    rcases Nat.eq_or_lt_of_le (show 1 ≤ kn k by omega) with h | h
    · exact absurd (show False by rcases hk with rfl | rfl | rfl | rfl | rfl | rfl <;> exact absurd h (by decide)) id
    · have h2 : B64 ^ 1 ≤ B64 ^ (kn k - 1) := Nat.pow_le_pow_right B64_pos (by omega)
      have : B64 ^ 1 = B64 := Nat.pow_one _
      have h3 : 1 < B64 := by decide
      omega
  have HK := hide (show kP k < B64 ^ kn k ∧ InvOk (kP k) ∧ 0 < kn k ∧ kn k ≤ 6 ∧ ksz k = 8 * kn k ∧ 1 < kP k from ⟨hK.lt, hK.inv, hK.n1, hK.n6, hK.sz2, hgt⟩)
  have n6 := hK.n6
  clear hlen hK hgt
  generalize pstr k = s at *
  generalize hP : kP k = P at *
  generalize hnn : kn k = n at *
  generalize hzz : ksz k = sz at *
  have hP := hide hP
  have hnn := hide hnn
  have hzz := hide hzz
  have hem : s.toList.isEmpty = false := by
    rw [Go.ByteArray.toList_eq]
    have h1 : s.data.toList.length = 16 * n := hsz
    cases hq : s.data.toList with
    | nil => rw [hq] at h1; have := HK.out.2.2.1; simp at h1; omega
    | cons a r => rfl
  have hne := hide hne
  have iq := wrap_in ((sz : Int)) (by have := HK.out.2.2.2.2.1; omega) (by have := HK.out.2.2.2.2.1; omega)
  have iq2 : 16 * (n : Int) / 2 = (sz : Int) := by have := HK.out.2.2.2.2.1; omega
  go_enter Try.func59, Try.ntmps59
  go_wp2_with (first
    | (go_at_call 105; refine hpr.out.mono ?_; rintro e w1 ⟨rfl, rfl⟩)
    | (go_at_call 107; refine (hhex.out w1).mono ?_; rintro e w2 ⟨b2, rfl, hb2, hg2, hB2⟩; replace hb2 := hide hb2; replace hB2 := hide hB2; rw [fix_length])
    | (go_at_call 106; have hn := hnew.out (some ⟨b2, 0, none⟩) n w2 (fun _ => ⟨_, _, rfl, hb2.out.row0⟩) (by rw [fix_length]; exact Nat.le_refl _); rw [fix_length] at hn; refine hn.mono ?_; clear hn; rintro e w3 ⟨bm, rfl, hv3, hg3, hB3⟩; replace hv3 := hide hv3; replace hB3 := hide hB3)
    | ((with_reducible refine wpList_box (o := ⟨some 16, _, _, _, _, _⟩) ?_ 101 (.tmp 15) ?_ [.pointer (some ⟨bm, 0, none⟩), .int .i64 (sz : Int)] ?_ ?_); rfl; rfl; rfl; intro w4 b4 h1 hv4 h3 h4; have hn4 : New w3 w4 b4 := ⟨by rw [h1]; exact Nat.le_refl _, by rw [h4]; omega, h3⟩; clear h1 h3 h4))
  go_ret2
  have hB23 := below_next hB2.out hB3.out
  have hb34 := hn4.bl
  refine ⟨b4, bm, rfl, ⟨?_, ⟨?_, ?_, ?_, ?_, ?_⟩, ?_⟩, Nat.le_trans hB23.size hn4.lo, Nat.le_trans hB2.out.size hg3, below_next hB23 hb34⟩
  · rw [hzz.out]; exact hv4
  · rw [hP.out, hnn.out]; exact hv3.out.next hb34
  · rw [hnn.out]; exact HK.out.2.2.1
  · rw [hnn.out]; exact HK.out.2.2.2.1
  · rw [hP.out, hnn.out]; exact HK.out.1
  · rw [hP.out]; exact HK.out.2.2.2.2.2
  · rw [hP.out]; exact HK.out.2.1

/-- there are no others. -/
theorem fnew_none (k : Int) (w : World) (hk : ¬ isKind k) : Calls Try.prog 59 #[.int .i64 k] w fun e w' => e = .returned (.tuple #[.pointer none, .int .i64 1]) ∧ w' = w := by
  have hp : pstr k = ⟨#[]⟩ := by
    unfold isKind at hk
    unfold pstr; rw [if_neg (by omega), if_neg (by omega), if_neg (by omega), if_neg (by omega), if_neg (by omega), if_neg (by omega)]
  have hpr := hide (prime_any k w)
  rw [hp] at hpr
  have hem : (ByteArray.mk #[]).toList.isEmpty = true := by rw [Go.ByteArray.toList_eq]; rfl
  go_enter Try.func59, Try.ntmps59
  go_wp2_with (go_at_call 105; refine hpr.out.mono ?_; rintro e w1 ⟨rfl, rfl⟩)
  go_ret2
  exact ⟨rfl, rfl⟩
end Go.Proofs.Ytincemkjdgbnnaa
