/- Walks: package field: prime, Hex. -/
import Derived.Test.YtincemkjdgbnnaaFieD
import Derived.Laws.RangeString
import Derived.Lib.OthersKept
set_option linter.unusedVariables false
set_option linter.unusedSimpArgs false
namespace Go.Proofs.Ytincemkjdgbnnaa
open Go.RowKit Lm Go.Lib

/-- a hex digit's worth. -/
def hexd (c : Nat) : Nat := if 97 ≤ c then c - 87 else c - 48
def isHex (c : Nat) : Prop := (48 ≤ c ∧ c < 58) ∨ (97 ≤ c ∧ c < 103)
theorem hexd_lt {c : Nat} (h : isHex c) : hexd c < 16 := by unfold hexd; rcases h with h | h <;> split <;> omega
/-- the digits of a string, the lowest first. -/
def sdig (s : ByteArray) : List Nat := (s.data.toList.map fun c => hexd c.toNat).reverse

theorem hex_step {N i V d : Nat} (hi : i < 16 * N) (hV : V < 16 ^ i) (hd : d < 16) :
    (fix B64 N V).set (i / 16) (nth (fix B64 N V) (i / 16) ||| d * 2 ^ (i % 16 * 4)) = fix B64 N (V + 16 ^ i * d) ∧ d * 2 ^ (i % 16 * 4) < B64 := by
  have hj : i / 16 < N := by omega
  have hr : i % 16 < 16 := Nat.mod_lt _ (by omega)
  have ha := Nat.div_add_mod i 16
  generalize i / 16 = j at *
  generalize i % 16 = r at *
  have e16 : ∀ k, 16 ^ k = 2 ^ (4 * k) := fun k => by rw [Nat.pow_mul]
  have eB : ∀ k, B64 ^ k = 2 ^ (64 * k) := fun k => by rw [Nat.pow_mul]; rfl
  have hold : nth (fix B64 N V) j = V / B64 ^ j % B64 := nth_fix hj
  have hlt : d * 2 ^ (r * 4) < 2 ^ (r * 4 + 4) := by
    rw [Nat.pow_add, Nat.mul_comm]; exact Nat.mul_lt_mul_of_pos_left (by omega) (Nat.pow_pos (by omega))
  have hle : 2 ^ (r * 4 + 4) ≤ B64 := Nat.pow_le_pow_right (by omega) (show r * 4 + 4 ≤ 64 by omega)
  have hVj : V / B64 ^ j < 2 ^ (r * 4) := by
    rw [Nat.div_lt_iff_lt_mul (pw_pos j), eB, ← Nat.pow_add, show r * 4 + 64 * j = 4 * i by omega, ← e16]
    exact hV
  have hVB : V / B64 ^ j % B64 = V / B64 ^ j := Nat.mod_eq_of_lt (Nat.lt_of_lt_of_le hVj (Nat.pow_le_pow_right (by omega) (show r * 4 ≤ 64 by omega)))
  refine ⟨?_, by omega⟩
  rw [hold, hVB, Nat.or_comm, or_add (Nat.mul_mod_left _ _) hVj]
  have hnew : d * 2 ^ (r * 4) + V / B64 ^ j < B64 := by
    have : d * 2 ^ (r * 4) + 2 ^ (r * 4) ≤ 2 ^ (r * 4 + 4) := by
      rw [← Nat.succ_mul, Nat.pow_add, Nat.mul_comm]; exact Nat.mul_le_mul_left _ (by omega)
    omega
  have hadd : 16 ^ i * d = B64 ^ j * (d * 2 ^ (r * 4)) := by
    rw [e16, eB, show 4 * i = 64 * j + r * 4 by omega, Nat.pow_add, Nat.mul_assoc, Nat.mul_comm d]
  have hVN : V + 16 ^ i * d < B64 ^ N := by
    have h1 : 16 ^ (i + 1) ≤ B64 ^ N := by rw [e16, eB]; exact Nat.pow_le_pow_right (by omega) (by omega)
    have h2 : 16 ^ i * d + 16 ^ i ≤ 16 ^ (i + 1) := by rw [← Nat.mul_succ, Nat.pow_succ]; exact Nat.mul_le_mul_left _ (by omega)
    omega
  refine val_inj (Ok.set (fix_ok B64_pos _ _) hnew) (fix_ok B64_pos _ _) (by rw [List.length_set, fix_length, fix_length]) ?_
  have hs := val_set (B := B64) (fix B64 N V) j (d * 2 ^ (r * 4) + V / B64 ^ j) (by rw [fix_length]; exact hj)
  rw [← nth_of_lt (by rw [fix_length]; exact hj), hold, hVB] at hs
  rw [val_fix_of_lt (show V < B64 ^ N by omega), Nat.mul_add] at hs
  rw [val_fix_of_lt hVN, hadd]
  omega

theorem iterAt_pos {w : World} {k : Nat} {s : ByteArray} {p : Nat} (h : w.heap[k]? = some (.stringIter s p)) : w.iterPos k = p := by simp [World.iterPos, h]
theorem sdig_length (s : ByteArray) : (sdig s).length = s.size := by simp [sdig]
theorem sdig_at {s : ByteArray} {i : Nat} (h : i < s.size) : nth (sdig s) i = hexd (s[s.size - 1 - i]'(by omega)).toNat := by
  rw [nth_of_lt (by rw [sdig_length]; exact h)]
  simp only [sdig, List.getElem_reverse, List.getElem_map, List.length_map]
  rfl
theorem sdig_ok {s : ByteArray} (hx : ∀ (i : Nat) (h : i < s.size), isHex (s[i]'h).toNat) : Ok 16 (sdig s) := fun x h => by
  obtain ⟨i, hi, rfl⟩ := List.getElem_of_mem h
  rw [sdig_length] at hi
  rw [← nth_of_lt (by rw [sdig_length]; exact hi), sdig_at hi]
  exact hexd_lt (hx _ _)

set_option maxRecDepth 100000 in
set_option maxHeartbeats 1600000 in
theorem hex_any (s : ByteArray) (N : Nat) (w : World) (hs : s.size = 16 * N) (hN : N ≤ 1000) (hx : ∀ (i : Nat) (h : i < s.size), isHex (s[i]'h).toNat) :
    Calls Try.prog 107 #[.string s] w (RetBlk w 22 .u64 (fix B64 N (val 16 (sdig s)))) := by
  have hmk := mk_u64 (N : Int) N rfl (by unfold lim; omega)
  have Hs := hide hs
  have Hx := hide hx
  clear hx
  go_enter Try.func107, Try.ntmps107
  go_wp2_with fail
  clear hmk
  have hB0 := below_alloc (below_alloc (Below.refl w.heap.size w) (nblk .u64 22 (List.replicate N 0))) (.stringIter s 0)
  have hblk0 : Blk ((w.alloc (nblk .u64 22 (List.replicate N 0))).alloc (.stringIter s 0)) w.heap.size 22 .u64 (List.replicate N 0) := (Blk.new w .u64 _ _).alloc _
  have hit0 := World.iter_heap (w.alloc (nblk .u64 22 (List.replicate N 0))) s 0
  have hne : w.heap.size < (w.alloc (nblk .u64 22 (List.replicate N 0))).heap.size := by simp
  have HB0 := hide hB0
  have Hblk0 := hide hblk0
  have Hit0 := hide hit0
  have hD := sdig_ok Hx.out
  have HD := hide hD
  have hDl := hide (sdig_length s)
  have hbk : (w.alloc (nblk .u64 22 (List.replicate N 0))).heap.size = w.heap.size + 1 := by simp
  rw [hbk] at Hit0
  clear hB0 hblk0 hit0 hD hne hbk
  go_loopw [4, 5, 6] (fun _ _ _ wr => ∃ i : Nat, i ≤ 16 * N ∧ wr.heap[w.heap.size + 1]? = some (.stringIter s i) ∧ Below w.heap.size w wr ∧ Blk wr w.heap.size 22 .u64 (fix B64 N (val 16 ((sdig s).take i)))) (fun _ _ _ wr => 16 * N - wr.iterPos (w.heap.size + 1))
  case atStart =>
    refine ⟨0, Nat.zero_le _, Hit0.out, HB0.out, ?_⟩
    have : fix B64 N (val 16 ((sdig s).take 0)) = List.replicate N 0 := by
      refine val_inj (fix_ok B64_pos _ _) (Ok.replicate B64_pos _) (by rw [fix_length, List.length_replicate]) ?_
      rw [val_replicate, val_fix]; simp [val]
    rw [this]
    exact Hblk0.out
  case round =>
    obtain ⟨i, hi, hit, hbw, hblk⟩ := hrel
    by_cases hlt : i < 16 * N
    · have hls : i < s.size := by rw [hs]; exact hlt
      have hc := Hx.out i hls
      have hnx : ∀ ty, (Instr.next (.pointer (some ⟨w.heap.size + 1, 0, none⟩)) true ty).run Try.prog wr = _ := fun ty => run_next_ascii_at wr (w.heap.size + 1) s i ty hit hls (by unfold isHex at hc; omega)
      have hlj : s.size - 1 - i < s.size := by omega
      have hcj := Hx.out _ hlj
      have hdg := sdig_at hls
      obtain ⟨c, hcc⟩ : ∃ c, c = (s[s.size - 1 - i]'hlj).toNat := ⟨_, rfl⟩
      obtain ⟨c0, hc0⟩ : ∃ c0, c0 = (s[i]'hls).toNat := ⟨_, rfl⟩
      rw [← hcc] at hcj hdg
      rw [← hc0] at hnx
      have hidx : ∀ W, (Instr.index 9 (.string s) (.int .i64 (16 * (N : Int) - 1 - (i : Int)))).run Try.prog W = .ok (.int .u8 (c : Int)) W := fun W => by
        rw [run_index_string _ _ _ _ _ Try.underlying9]
        have e : (16 * (N : Int) - 1 - (i : Int)).toNat = s.size - 1 - i := by omega
        rw [dif_pos (by omega)]
        simp only [e, ← hcc]
      have hsz : w.heap.size < wr.heap.size := hblk.lt
      have hbw2 := below_iterAt hbw (k := w.heap.size + 1) (by omega) s (i + 1)
      have hit2 := iterAt_heap wr (w.heap.size + 1) s i (i + 1) hit
      have hpos := iterAt_pos hit
      have hpos2 := iterAt_pos hit2
      have hblk2 : Blk (wr.iterAt (w.heap.size + 1) s (i + 1)) w.heap.size 22 .u64 (fix B64 N (val 16 ((sdig s).take i))) := (iterAt_other wr (w.heap.size + 1) w.heap.size s (i + 1) (by omega)).trans hblk
      obtain ⟨w2, hw2⟩ : ∃ w2, w2 = wr.iterAt (w.heap.size + 1) s (i + 1) := ⟨_, rfl⟩
      rw [← hw2] at hnx hbw2 hit2 hpos2 hblk2
      replace hpos := hide hpos
      replace hpos2 := hide hpos2
      replace hit2 := hide hit2
      replace hbw2 := hide hbw2
      replace hdg := hide hdg
      replace hcc := hide hcc
      replace hc0 := hide hc0
      replace hw2 := hide hw2
      clear hit hbw hblk hsz hc
      obtain ⟨st1, st2⟩ := hex_step (V := val 16 ((sdig s).take i)) (d := hexd c) hlt (vt_lt HD.out (by omega) i) (hexd_lt hcj)
      have hVn : val 16 ((sdig s).take i) + 16 ^ i * hexd c = val 16 ((sdig s).take (i + 1)) := by
        rw [vt_succ', hdg.out]
      rw [hVn] at st1
      have hjN : i / 16 < N := by omega
      have hcell := hblk2.cell (i := i / 16) (by rw [fix_length]; exact hjN)
      have hfr := hblk2.frozen (i / 16)
      have hy : nth (fix B64 N (val 16 ((sdig s).take i))) (i / 16) < B64 := Ok.getD B64_pos (fix_ok B64_pos _ _) _
      have Hblk := hide hblk2
      replace st1 := hide st1
      replace st2 := hide st2
      clear hblk2 hVn
      generalize fix B64 N (val 16 ((sdig s).take i)) = L at *
      generalize nth L (i / 16) = y at *
      replace hcj := hide hcj
      have i0 : (0 : Int) ≤ (i : Int) / 16 := by omega
      have i1 : (i : Int) / 16 < (N : Int) := by omega
      have i2 : ((i : Int) / 16).toNat = i / 16 := by omega
      have iw := wrap_in ((i : Int) / 16) (by omega) (by omega)
      have iw2 := wrap_in ((i : Int) % 16) (by omega) (by omega)
      have iw3 := wrap_in ((i : Int) % 16 * 4) (by omega) (by omega)
      have iw4 := wrap_in (16 * (N : Int) - 1) (by omega) (by omega)
      have iw5 := wrap_in (16 * (N : Int) - 1 - (i : Int)) (by omega) (by omega)
      by_cases h97 : 97 ≤ c
      · have h97i : (97 : Int) ≤ (c : Int) := by omega
        have e6 : ((c : Int) - 97) % 256 + 10 = (hexd c : Int) := by
          have := hcj.out; unfold isHex at this; unfold hexd; rw [if_pos h97]; omega
        go_wp2_with fail
        go_region
        go_wp2_with fail
        have hE := or_shl hy st2.out
        have hblk2 := Blk.drew (Hblk.out.set_ (i / 16) hE)
        rw [st1.out] at hblk2
        have hbf := below_drew (hbw2.out.setCell (p := ⟨w.heap.size, i / 16, none⟩) (Nat.le_refl _) (.int .u64 (bits .or .u64 (y : Int) (IntKind.u64.wrap ((hexd c : Int) * 2 ^ (i % 16 * 4))))))
        have hit3 := (Below.heap_setCell w2 ⟨w.heap.size, i / 16, none⟩ (.int .u64 (bits .or .u64 (y : Int) (IntKind.u64.wrap ((hexd c : Int) * 2 ^ (i % 16 * 4))))) (w.heap.size + 1) (by simp)).trans hit2.out
        refine ⟨⟨i + 1, by omega, hit3, hbf, hblk2⟩, ?_⟩
        have hp3 : (w2.setCell ⟨w.heap.size, i / 16, none⟩ (.int .u64 (bits .or .u64 (y : Int) (IntKind.u64.wrap ((hexd c : Int) * 2 ^ (i % 16 * 4)))))).drew.iterPos (w.heap.size + 1) = i + 1 := iterAt_pos hit3
        rw [hp3, hpos.out]
        omega
      · have h97i : ¬ (97 : Int) ≤ (c : Int) := by omega
        have e6 : ((c : Int) - 48) % 256 = (hexd c : Int) := by
          have := hcj.out; unfold isHex at this; unfold hexd; rw [if_neg h97]; omega
        go_wp2_with fail
        go_region
        go_wp2_with fail
        have hE := or_shl hy st2.out
        have hblk2 := Blk.drew (Hblk.out.set_ (i / 16) hE)
        rw [st1.out] at hblk2
        have hbf := below_drew (hbw2.out.setCell (p := ⟨w.heap.size, i / 16, none⟩) (Nat.le_refl _) (.int .u64 (bits .or .u64 (y : Int) (IntKind.u64.wrap ((hexd c : Int) * 2 ^ (i % 16 * 4))))))
        have hit3 := (Below.heap_setCell w2 ⟨w.heap.size, i / 16, none⟩ (.int .u64 (bits .or .u64 (y : Int) (IntKind.u64.wrap ((hexd c : Int) * 2 ^ (i % 16 * 4))))) (w.heap.size + 1) (by simp)).trans hit2.out
        refine ⟨⟨i + 1, by omega, hit3, hbf, hblk2⟩, ?_⟩
        have hp3 : (w2.setCell ⟨w.heap.size, i / 16, none⟩ (.int .u64 (bits .or .u64 (y : Int) (IntKind.u64.wrap ((hexd c : Int) * 2 ^ (i % 16 * 4)))))).drew.iterPos (w.heap.size + 1) = i + 1 := iterAt_pos hit3
        rw [hp3, hpos.out]
        omega
    · obtain rfl : i = 16 * N := by omega
      have hnx : ∀ ty, (Instr.next (.pointer (some ⟨w.heap.size + 1, 0, none⟩)) true ty).run Try.prog wr = _ := fun ty => run_next_end_at wr (w.heap.size + 1) s (16 * N) ty hit (by omega)
      rw [vt_full _ (by rw [hDl.out, hs]; exact Nat.le_refl _)] at hblk
      have hbw := hide hbw
      have hblk := hide hblk
      clear hit
      go_wp2_with fail
      go_ret
      exact retblk_mk hbw.out (by rw [fix_length]) hblk.out (Nat.le_refl _)
end Go.Proofs.Ytincemkjdgbnnaa
