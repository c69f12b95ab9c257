/- Walks: the reference's numbers (nat): trim, Of. -/
import Derived.Test.YtincemkjdgbnnaaFieG
set_option linter.unusedVariables false
set_option linter.unusedSimpArgs false
namespace Go.Proofs.Ytincemkjdgbnnaa
open Go.RowKit Lm

theorem B32_pos : 0 < B32 := by decide
theorem mk_u32 (x : Int) (n : Nat) (hx : x = (n : Int)) (hn : n ≤ lim) (W : World) :
    (Instr.makeSlice 30 (.int .i64 x) (.int .i64 x)).run Try.prog W = .ok (.slice (some ⟨W.heap.size, 0, none⟩) n n) (W.alloc (nblk .u32 95 (List.replicate n 0))) :=
  mk_row Try.underlying30 Try.info_u32 (by omega) x n hx hn W

theorem ntake_trim {l : List Nat} (hok : Lm.Ok B32 l) {n : Nat} (hn : n ≤ l.length) (hz : ∀ i, n ≤ i → i < l.length → nth l i = 0)
    (hl : 0 < n → nth l (n - 1) ≠ 0) : l.take n = Lm.digs B32 (Lm.val B32 l) :=
  Lm.take_eq_digs B32_ge hok hn (fun i hi h => by rw [← nth_of_lt hi]; exact hz i h hi) (fun h0 => by rw [← nth_of_lt]; exact hl h0)

set_option maxHeartbeats 400000 in
theorem ntrim_any (A : Option Addr) (c : Nat) (l : List Nat) (w : World) (hr : Rd w .u32 A l) (hc : l.length ≤ c) (hlim : l.length ≤ lim) (hok : Lm.Ok B32 l) :
    Calls Try.prog 62 #[.slice A l.length c] w (RetSl w .u32 (Lm.digs B32 (Lm.val B32 l))) := by
  unfold lim at hlim
  generalize hlen : l.length = len at *
  have hlen := hide hlen
  go_enter Try.func62, Try.ntmps62
  go_wp2
  go_loop [3] (fun s => ∃ n : Nat, n ≤ len ∧ s = .int .i64 n ∧ Hid (∀ i, n ≤ i → i < len → nth l i = 0)) (fun s => (intOf s).toNat)
  case atStart => exact ⟨len, Nat.le_refl _, rfl, fun i h1 h2 => by omega⟩
  case round =>
    obtain ⟨n, hn, rfl, hz⟩ := hrel
    by_cases h0 : 0 < n
    · obtain ⟨b, off, rfl, hrow⟩ := hr (by rw [hlen.out]; omega)
      have hcell := hrow (n - 1) (by rw [hlen.out]; omega)
      clear hrow
      by_cases hz0 : nth l (n - 1) = 0
      · have hd : ((nth l (n - 1) : Int) == 0) = true := by simp [hz0]
        go_wp2_with fail
        exact ⟨⟨n - 1, by omega, by rw [show ((n - 1 : Nat) : Int) = (n : Int) - 1 from by omega], fun i h1 h2 => by
          rcases Nat.lt_or_ge i n with h3 | h3
          · rw [show i = n - 1 from by omega]; exact hz0
          · exact hz.out i h3 h2⟩, by simp [intOf]; omega⟩
      · have hd : ((nth l (n - 1) : Int) == 0) = false := by rw [beq_eq_false_iff_ne]; omega
        have hfin := hide (ntake_trim hok (n := n) (by rw [hlen.out]; omega) (fun i h1 h2 => hz.out i h1 (by rw [← hlen.out]; exact h2)) (fun _ => hz0))
        go_wp2_with fail
        go_ret
        exact retsl_mk (Below.refl _ _) (by rw [← hfin.out, List.length_take, hlen.out]; omega) (by omega) (by rw [← hfin.out]; exact hr.take n)
    · obtain rfl : n = 0 := by omega
      have hfin := hide (ntake_trim hok (n := 0) (by omega) (fun i h1 h2 => hz.out i h1 (by rw [← hlen.out]; exact h2)) (fun h => absurd h h0))
      go_wp2_with fail
      go_ret
      exact retsl_mk (Below.refl _ _) (by rw [← hfin.out]; simp) (by omega) (by rw [← hfin.out]; exact Rd.nil _ _ _)


theorem of_digits {n : Nat} (h : n < B64) : val B32 [n % B32, n / B32 % B32] = n := by
  simp only [val, B32_eq]; rw [B64_eq] at h; omega

theorem nof_any (n : Nat) (w : World) (h : n < B64) : Calls Try.prog 29 #[.int .u64 (n : Int)] w (RetSl w .u32 (digs B32 n)) := by
  have hv := hide (of_digits h)
  obtain ⟨d0, hd0⟩ : ∃ d, d = n % B32 := ⟨_, rfl⟩
  obtain ⟨d1, hd1⟩ : ∃ d, d = n / B32 % B32 := ⟨_, rfl⟩
  have h1 : IntKind.u32.wrap (n : Int) = (d0 : Int) := by rw [hd0, IntKind.wrap_u32, B32_eq]; omega
  have h2 : IntKind.u32.wrap ((n : Int) / 4294967296) = (d1 : Int) := by rw [hd1, IntKind.wrap_u32, B32_eq]; omega
  have hok : Ok B32 [d0, d1] := Ok.cons (by rw [hd0]; exact Nat.mod_lt _ B32_pos) (Ok.cons (by rw [hd1]; exact Nat.mod_lt _ B32_pos) Ok.nil)
  rw [← hd0, ← hd1] at hv
  have hok := hide hok
  clear hd0 hd1
  go_enter Try.func29, Try.ntmps29
  go_wp2_with fail
  have hblk : Blk (w.alloc (.cells #[.int .u32 (d0 : Int), .int .u32 (d1 : Int)] 95)) w.heap.size 95 .u32 [d0, d1] := Blk.new w .u32 95 [d0, d1]
  have ht := ntrim_any (some ⟨w.heap.size, 0, none⟩) 2 [d0, d1] _ (fun _ => ⟨_, _, rfl, hblk.row0⟩) (Nat.le_refl _) (by simp [lim]) hok.out
  rw [hv.out] at ht
  have ht := hide ht
  clear hblk
  refine ht.out.mono ?_
  rintro e w1 ⟨A1, c1, rfl, hc1, hr1, hb1⟩
  have hb := hide (below_then (below_alloc (Below.refl _ _) _) (by simp) hb1)
  clear hb1 ht
  go_wp2_with fail
  go_ret
  exact retsl_mk hb.out rfl hc1 hr1
end Go.Proofs.Ytincemkjdgbnnaa
