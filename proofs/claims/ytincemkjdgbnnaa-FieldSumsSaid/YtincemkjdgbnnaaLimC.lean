/- Walks: package limb, sums and differences. -/
import Derived.Test.YtincemkjdgbnnaaLimB
import Derived.Test.YtincemkjdgbnnaaLc
set_option linter.unusedVariables false
set_option linter.unusedSimpArgs false
namespace Go.Proofs.Ytincemkjdgbnnaa
open Go.RowKit Lm

/-! the calls that the model runs by itself; their answers behind names, so that the walk leaves them whole -/
def ad1 (x y c : Nat) : Nat := (x + y + c) % B64
def cy1 (x y c : Nat) : Nat := (x + y + c) / B64
def df1 (x y b : Nat) : Nat := (x + B64 - y - b) % B64
def bo1 (x y b : Nat) : Nat := if x < y + b then 1 else 0
def mh1 (x y : Nat) : Nat := x * y / B64
def ml1 (x y : Nat) : Nat := x * y % B64
theorem B64_pos : 0 < B64 := by decide
theorem ad1_lt (x y c : Nat) : ad1 x y c < B64 := Nat.mod_lt _ B64_pos
theorem df1_lt (x y c : Nat) : df1 x y c < B64 := Nat.mod_lt _ B64_pos
theorem ml1_lt (x y : Nat) : ml1 x y < B64 := Nat.mod_lt _ B64_pos
theorem bo1_le (x y c : Nat) : bo1 x y c ≤ 1 := by unfold bo1; split <;> omega
theorem cy1_le {x y c : Nat} (hx : x < B64) (hy : y < B64) (hc : c ≤ 1) : cy1 x y c ≤ 1 := by unfold cy1; rw [B64_eq] at *; omega

@[go_sem] theorem run_Add64 (x y c : Nat) (hc : c ≤ 1) (w : World) :
    (callFunc 119 #[.int .u64 (x : Int), .int .u64 (y : Int), .int .u64 (c : Int)]).run Try.prog w =
      .ok (.value (.tuple #[.int .u64 (ad1 x y c : Int), .int .u64 (cy1 x y c : Int)])) w := by
  rw [run_callFunc_extern Try.func119 (by kernel_rfl) (by kernel_rfl) (by kernel_rfl) (e := add64Entry) (by kernel_rfl), run_add64 x y c (by omega) (by omega) (by omega) (by omega)]
  simp only [Result.andThen, B64_eq, ad1, cy1]
  congr 5 <;> omega
@[go_sem] theorem run_Add64_0 (x y : Nat) (w : World) :
    (callFunc 119 #[.int .u64 (x : Int), .int .u64 (y : Int), .int .u64 0]).run Try.prog w =
      .ok (.value (.tuple #[.int .u64 (ad1 x y 0 : Int), .int .u64 (cy1 x y 0 : Int)])) w := run_Add64 x y 0 (by omega) w
@[go_sem] theorem run_Add64_1 (x c : Nat) (hc : c ≤ 1) (w : World) :
    (callFunc 119 #[.int .u64 (x : Int), .int .u64 0, .int .u64 (c : Int)]).run Try.prog w =
      .ok (.value (.tuple #[.int .u64 (ad1 x 0 c : Int), .int .u64 (cy1 x 0 c : Int)])) w := run_Add64 x 0 c hc w

def sub64E : Array Value → Sem Value := fun args => do
  let (x, y, b) ← Extern.MathBitsCarry.three "Sub64" args
  pure (Extern.MathBitsCarry.pair ((x + Extern.MathBitsCarry.m64 - y - b) % Extern.MathBitsCarry.m64) (if x < y + b then 1 else 0))
theorem run_sub64E (x y b : Nat) (hb : b ≤ 1) (w : World) :
    (sub64E #[.int .u64 (x : Int), .int .u64 (y : Int), .int .u64 (b : Int)]).run Try.prog w =
      .ok (.tuple #[.int .u64 (((x + 18446744073709551616 - y - b) % 18446744073709551616 : Nat) : Int), .int .u64 ((if x < y + b then 1 else 0 : Nat) : Int)]) w := by
  have h : b = 0 ∨ b = 1 := by omega
  rcases h with rfl | rfl <;> rfl
@[go_sem] theorem run_Sub64 (x y b : Nat) (hb : b ≤ 1) (w : World) :
    (callFunc 123 #[.int .u64 (x : Int), .int .u64 (y : Int), .int .u64 (b : Int)]).run Try.prog w =
      .ok (.value (.tuple #[.int .u64 (df1 x y b : Int), .int .u64 (bo1 x y b : Int)])) w := by
  rw [run_callFunc_extern Try.func123 (by kernel_rfl) (by kernel_rfl) (by kernel_rfl) (e := sub64E) (by kernel_rfl), run_sub64E x y b hb]
  simp only [Result.andThen, B64_eq, df1, bo1]
@[go_sem] theorem run_Sub64_0 (x b : Nat) (hb : b ≤ 1) (w : World) :
    (callFunc 123 #[.int .u64 (x : Int), .int .u64 0, .int .u64 (b : Int)]).run Try.prog w =
      .ok (.value (.tuple #[.int .u64 (df1 x 0 b : Int), .int .u64 (bo1 x 0 b : Int)])) w := run_Sub64 x 0 b hb w

theorem mul64_any (x y : Nat) (hx : x < B64) (hy : y < B64) (w : World) :
    Calls Try.prog 141 #[.int .u64 (x : Int), .int .u64 (y : Int)] w fun e w' => e = .returned (.tuple #[.int .u64 (mh1 x y : Int), .int .u64 (ml1 x y : Int)]) ∧ w' = w :=
  Try.bits_Mul64 x y hx hy w

theorem carry_le {a b i : Nat} (ha : a < B64 ^ i) (hb : b < B64 ^ i) : (a + b) / B64 ^ i ≤ 1 := by
  have : (a + b) / B64 ^ i < 2 := (Nat.div_lt_iff_lt_mul (Nat.pow_pos (by decide))).2 (by omega)
  omega

theorem zeros_eq (n : Nat) : List.replicate n 0 = fix B64 n 0 :=
  val_inj (Ok.replicate B64_pos _) (fix_ok B64_pos _ _) (by rw [fix_length, List.length_replicate]) (by rw [val_replicate, val_fix]; simp)

set_option maxRecDepth 100000 in
set_option maxHeartbeats 800000 in
theorem add_any (A A' : Option Addr) (c c' : Nat) (l m : List Nat) (w : World) (hr : Rd w .u64 A l) (hc : l.length ≤ c) (hlim : l.length < lim) (hok : Ok B64 l)
    (hr' : Rd w .u64 A' m) (hc' : m.length ≤ c') (hok' : Ok B64 m) (hml : m.length ≤ l.length) :
    Calls Try.prog 126 #[.slice A l.length c, .slice A' m.length c'] w (RetSl w .u64 (digs B64 (val B64 l + val B64 m))) := by
  have hlim2 := hlim
  unfold lim at hlim2
  generalize hp : l.length = p at *
  generalize hq : m.length = q at *
  have HP := hide hp; clear hp
  have HQ := hide hq; clear hq
  have hmk := mk_u64 ((p : Int) + 1) (p + 1) (by omega) (by unfold lim; omega)
  have hd : decide ((p : Int) < (q : Int)) = false := by simp; omega
  go_enter Try.func126, Try.ntmps126
  go_wp2_with fail
  go_loopw [6, 7, 8, 22] (fun cy s7 s8 k wr => ∃ i : Nat, i ≤ p ∧ k = .int .i64 i ∧ cy = .int .u64 (((val B64 (l.take i) + val B64 (m.take i)) / B64 ^ i : Nat) : Int) ∧
    Only (w.alloc (nblk .u64 22 (List.replicate (p + 1) 0))) wr w.heap.size ∧
    Blk wr w.heap.size 22 .u64 (ch B64 i ((val B64 (l.take i) + val B64 (m.take i)) % B64 ^ i) (List.replicate (p + 1) 0))) (fun _ _ _ k _ => p - (intOf k).toNat)
  case atStart =>
    exact ⟨0, Nat.zero_le _, rfl, by simp, Only.refl _ _, by rw [ch_zero]; exact Blk.new _ _ _ _⟩
  case round =>
    obtain ⟨i, hi, rfl, rfl, hon, hblk⟩ := hrel
    have hT := carry_le (vt_lt hok B64_pos i) (vt_lt hok' B64_pos i)
    have hTm : (val B64 (l.take i) + val B64 (m.take i)) % B64 ^ i < B64 ^ i := Nat.mod_lt _ (Nat.pow_pos B64_pos)
    by_cases hlt : i < p
    · obtain ⟨b, off, rfl, hrow⟩ := hr (by rw [HP.out]; omega)
      have hbw := hrow.lt (by rw [HP.out]; omega)
      have hrow2 : RowN wr .u64 b off l := hon.row (hrow.below ((Below.refl _ _).alloc (Nat.le_refl _) _)) (by omega)
      have hcell := hrow2 i (by rw [HP.out]; exact hlt)
      have hx : nth l i < B64 := Ok.getD B64_pos hok _
      have hcell2 := hblk.cell (i := i) (by rw [ch_length (by simp; omega)]; simp; omega)
      have hfr := hblk.frozen i
      have hT' : val B64 (l.take (i + 1)) + val B64 (m.take (i + 1)) = val B64 (l.take i) + val B64 (m.take i) + B64 ^ i * (nth l i + nth m i) := by
        rw [vt_succ', vt_succ', Nat.mul_add]; omega
      have HN := hide (show cy1 (nth l i) (nth m i) ((val B64 (l.take i) + val B64 (m.take i)) / B64 ^ i) = (val B64 (l.take (i + 1)) + val B64 (m.take (i + 1))) / B64 ^ (i + 1) by
        unfold cy1; rw [hT', Nat.pow_succ, carry_div (Nat.pow_pos B64_pos), Nat.add_comm])
      have HB := hide (show Blk (wr.setCell ⟨w.heap.size, i, none⟩ (.int .u64 (ad1 (nth l i) (nth m i) ((val B64 (l.take i) + val B64 (m.take i)) / B64 ^ i) : Int))) w.heap.size 22 .u64
          (ch B64 (i + 1) ((val B64 (l.take (i + 1)) + val B64 (m.take (i + 1))) % B64 ^ (i + 1)) (List.replicate (p + 1) 0)) by
        have h1 := hblk.set_ i (E := _) (z := ad1 (nth l i) (nth m i) ((val B64 (l.take i) + val B64 (m.take i)) / B64 ^ i)) rfl
        rw [ch_set (by simp; omega) hTm (ad1_lt _ _ _)] at h1
        unfold ad1 at h1 ⊢
        rw [hT', Nat.pow_succ, carry_mod, Nat.add_comm ((val B64 (l.take i) + val B64 (m.take i)) / B64 ^ i)]
        exact h1)
      have Hon := hide hon
      generalize (val B64 (l.take i) + val B64 (m.take i)) / B64 ^ i = k0 at *
      generalize (val B64 (l.take i) + val B64 (m.take i)) % B64 ^ i = lo at *
      generalize nth (ch B64 i lo (List.replicate (p + 1) 0)) i = old at *
      generalize nth l i = x at *
      have hrq : i < q → Rd wr .u64 A' m := fun _ => by
        intro h
        obtain ⟨b', off', e, h2⟩ := hr' h
        exact ⟨b', off', e, hon.row (h2.below ((Below.refl _ _).alloc (Nat.le_refl _) _)) (by have := h2.lt h; omega)⟩
      clear hblk hon hT' hrow hrow2 hr hr' hmk
      by_cases hiq : i < q
      · obtain ⟨b', off', rfl, hrow'⟩ := hrq hiq (by rw [HQ.out]; omega)
        have hcell' := hrow' i (by rw [HQ.out]; exact hiq)
        clear hrow' hrq
        generalize nth m i = y at *
        go_wp2_with fail
        exact ⟨⟨i + 1, by omega, by simp, by rw [HN.out], Hon.out.set_ _ _, HB.out⟩, by simp [intOf]; omega⟩
      · rw [nth_of_ge (by rw [HQ.out]; omega)] at HN HB
        clear hrq
        go_wp2_with fail
        exact ⟨⟨i + 1, by omega, by simp, by rw [HN.out], Hon.out.set_ _ _, HB.out⟩, by simp [intOf]; omega⟩
    · obtain rfl : i = p := by omega
      rw [vt_full l (by rw [HP.out]; exact Nat.le_refl _), vt_full m (by rw [HQ.out]; exact hml)] at *
      have hbw : Below w.heap.size w wr := Only.below ((Below.refl _ _).alloc (Nat.le_refl _) _) hon (Nat.le_refl _)
      have hcell := hblk.cell (i := i) (by rw [ch_length (by simp)]; simp)
      have hfr := hblk.frozen i
      have HB := hide (hblk.set_ i (E := (((val B64 l + val B64 m) / B64 ^ i : Nat) : Int)) rfl)
      have HE := hide (show (ch B64 i ((val B64 l + val B64 m) % B64 ^ i) (List.replicate (i + 1) 0)).set i ((val B64 l + val B64 m) / B64 ^ i) = fix B64 (i + 1) (val B64 l + val B64 m) by
        rw [ch_set (by simp) hTm (Nat.lt_of_le_of_lt hT (by decide)), ch_full' (by simp), Nat.mod_add_div])
      have HV := hide (show val B64 l + val B64 m < B64 ^ (i + 1) by
        have h1 := val_lt hok
        have h2 := val_lt hok'
        rw [HP.out] at h1
        rw [HQ.out] at h2
        have h3 := Nat.pow_le_pow_right (n := B64) B64_pos hml
        rw [Nat.pow_succ, B64_eq]
        rw [B64_eq] at h1 h2 h3
        omega)
      rw [HE.out] at HB
      have Hon := hide hon
      clear hon hblk hmk
      generalize (val B64 l + val B64 m) / B64 ^ i = k0 at *
      generalize nth (ch B64 i ((val B64 l + val B64 m) % B64 ^ i) (List.replicate (i + 1) 0)) i = old at *
      go_wp2_with fail
      have hrd : Rd (wr.setCell ⟨w.heap.size, i, none⟩ (.int .u64 (k0 : Int))) .u64 (some ⟨w.heap.size, 0, none⟩) (fix B64 (i + 1) (val B64 l + val B64 m)) := fun _ => ⟨_, _, rfl, HB.out.row0⟩
      have htr := trim_any _ (i + 1) _ _ hrd (by rw [fix_length]; exact Nat.le_refl _) (by rw [fix_length]; unfold lim; omega) (fix_ok B64_pos _ _)
      rw [fix_length, val_fix_of_lt HV.out] at htr
      refine htr.mono ?_
      rintro e w2 ⟨A2, c2, rfl, hc2, hr2, hb2⟩
      go_wp2_with fail
      go_ret
      exact retsl_mk (below_next (Only.below hbw ((Only.refl _ _).set_ _ _) (Nat.le_refl _)) hb2) rfl hc2 hr2

set_option maxRecDepth 100000 in
set_option maxHeartbeats 800000 in
theorem sub_any (A A' : Option Addr) (c c' : Nat) (l m : List Nat) (w : World) (hr : Rd w .u64 A l) (hc : l.length ≤ c) (hlim : l.length ≤ lim) (hok : Ok B64 l)
    (hr' : Rd w .u64 A' m) (hc' : m.length ≤ c') (hlim' : m.length ≤ lim) (hok' : Ok B64 m) (hle : val B64 m ≤ val B64 l) :
    Calls Try.prog 122 #[.slice A l.length c, .slice A' m.length c'] w (RetSl w .u64 (digs B64 (val B64 l - val B64 m))) := by
  go_enter Try.func122, Try.ntmps122
  go_wp2_with fail
  refine (trim_any A c l w hr hc hlim hok).mono ?_
  rintro e w1 ⟨A1, c1, rfl, hc1, hr1, hb1⟩
  go_wp2_with fail
  refine (trim_any A' c' m w1 (hr'.below hb1) hc' hlim' hok').mono ?_
  rintro e w2 ⟨A2, c2, rfl, hc2, hr2, hb2⟩
  have hr1 := hr1.below hb2
  have hb := below_next hb1 hb2
  clear hb1 hb2 hr hr'
  have l1 := dlen hok
  have l2 := dlen hok'
  unfold lim at hlim hlim'
  have HA := hide (val_digs B64_ge (val B64 l))
  have HB := hide (val_digs B64_ge (val B64 m))
  have okL := digs_ok B64_ge (val B64 l)
  have okM := digs_ok B64_ge (val B64 m)
  have HL := hide (show (digs B64 (val B64 m)).length ≤ (digs B64 (val B64 l)).length from digs_length_le B64_ge (Nat.lt_of_le_of_lt hle (digs_lt B64_ge _)))
  have Hle := hide hle
  clear hle
  generalize digs B64 (val B64 l) = L at *
  generalize digs B64 (val B64 m) = M at *
  generalize hp : L.length = p at *
  generalize hq : M.length = q at *
  have HP := hide hp; clear hp
  have HQ := hide hq; clear hq
  have hmk := mk_u64 (p : Int) p rfl (by unfold lim; omega)
  go_wp2_with fail
  go_loopw [6, 7, 8, 18] (fun cy s7 s8 k wr => ∃ i : Nat, i ≤ p ∧ k = .int .i64 i ∧ cy = .int .u64 (bo (val B64 (L.take i)) (val B64 (M.take i)) : Int) ∧
    Only (w2.alloc (nblk .u64 22 (List.replicate p 0))) wr w2.heap.size ∧
    Blk wr w2.heap.size 22 .u64 (ch B64 i (sb (B64 ^ i) (val B64 (L.take i)) (val B64 (M.take i))) (List.replicate p 0))) (fun _ _ _ k _ => p - (intOf k).toNat)
  case atStart =>
    exact ⟨0, Nat.zero_le _, rfl, by simp [bo], Only.refl _ _, by rw [ch_zero]; exact Blk.new _ _ _ _⟩
  case round =>
    obtain ⟨i, hi, rfl, rfl, hon, hblk⟩ := hrel
    have ha := vt_lt okL B64_pos i
    have hb' := vt_lt okM B64_pos i
    have hbo := bo_le (val B64 (L.take i)) (val B64 (M.take i))
    have hsb := sb_lt ha hb'
    by_cases hlt : i < p
    · obtain ⟨b, off, rfl, hrow⟩ := hr1 (by rw [HP.out]; omega)
      have hbw := hrow.lt (by rw [HP.out]; omega)
      have hrow2 : RowN wr .u64 b off L := hon.row (hrow.below ((Below.refl _ _).alloc (Nat.le_refl _) _)) (by omega)
      have hcell := hrow2 i (by rw [HP.out]; exact hlt)
      have hx : nth L i < B64 := Ok.getD B64_pos okL _
      have hy : nth M i < B64 := Ok.getD B64_pos okM _
      have hcell2 := hblk.cell (i := i) (by rw [ch_length (by simp; omega)]; simp; omega)
      have hfr := hblk.frozen i
      have HN := hide (show bo1 (nth L i) (nth M i) (bo (val B64 (L.take i)) (val B64 (M.take i))) = bo (val B64 (L.take (i + 1))) (val B64 (M.take (i + 1))) by
        rw [vt_succ', vt_succ', bo_step ha hb']; rfl)
      have HB := hide (show Blk (wr.setCell ⟨w2.heap.size, i, none⟩ (.int .u64 (df1 (nth L i) (nth M i) (bo (val B64 (L.take i)) (val B64 (M.take i))) : Int))) w2.heap.size 22 .u64
          (ch B64 (i + 1) (sb (B64 ^ (i + 1)) (val B64 (L.take (i + 1))) (val B64 (M.take (i + 1)))) (List.replicate p 0)) by
        have h1 := hblk.set_ i (E := _) (z := df1 (nth L i) (nth M i) (bo (val B64 (L.take i)) (val B64 (M.take i)))) rfl
        rw [ch_set (by simp; omega) hsb (df1_lt _ _ _)] at h1
        rw [vt_succ', vt_succ', Nat.pow_succ, sb_step ha hb' hx hy]
        exact h1)
      have Hon := hide hon
      have hrq : i < q → Rd wr .u64 A2 M := fun _ => by
        intro h
        obtain ⟨b', off', e, h2⟩ := hr2 h
        exact ⟨b', off', e, hon.row (h2.below ((Below.refl _ _).alloc (Nat.le_refl _) _)) (by have := h2.lt h; omega)⟩
      generalize sb (B64 ^ i) (val B64 (L.take i)) (val B64 (M.take i)) = lo at *
      generalize bo (val B64 (L.take i)) (val B64 (M.take i)) = k0 at *
      generalize nth (ch B64 i lo (List.replicate p 0)) i = old at *
      generalize nth L i = x at *
      clear hblk hon hrow hrow2 hr1 hr2 hmk ha hb'
      by_cases hiq : i < q
      · obtain ⟨b', off', rfl, hrow'⟩ := hrq hiq (by rw [HQ.out]; omega)
        have hcell' := hrow' i (by rw [HQ.out]; exact hiq)
        clear hrow' hrq
        generalize nth M i = y at *
        go_wp2_with fail
        exact ⟨⟨i + 1, by omega, by simp, by rw [HN.out], Hon.out.set_ _ _, HB.out⟩, by simp [intOf]; omega⟩
      · rw [nth_of_ge (by rw [HQ.out]; omega)] at HN HB
        clear hrq
        go_wp2_with fail
        exact ⟨⟨i + 1, by omega, by simp, by rw [HN.out], Hon.out.set_ _ _, HB.out⟩, by simp [intOf]; omega⟩
    · obtain rfl : i = p := by omega
      have hbw : Below w.heap.size w wr := below_next hb (Only.below ((Below.refl _ _).alloc (Nat.le_refl _) _) hon (Nat.le_refl _))
      have HF := hide (show ch B64 i (sb (B64 ^ i) (val B64 (L.take i)) (val B64 (M.take i))) (List.replicate i 0) = fix B64 i (val B64 l - val B64 m) ∧ val B64 l - val B64 m < B64 ^ i by
        have h1 := val_lt okL
        rw [HP.out, HA.out] at h1
        rw [ch_full' (by simp), vt_full L (by rw [HP.out]; exact Nat.le_refl _), vt_full M (by rw [HQ.out]; exact HL.out), HA.out, HB.out]
        have := Hle.out
        unfold sb bo
        rw [if_neg (by omega), Nat.zero_mul, Nat.add_zero]
        exact ⟨rfl, by omega⟩)
      rw [HF.out.1] at hblk
      have hrd : Rd wr .u64 (some ⟨w2.heap.size, 0, none⟩) (fix B64 i (val B64 l - val B64 m)) := fun _ => ⟨_, _, rfl, hblk.row0⟩
      have htr := trim_any _ i _ _ hrd (by rw [fix_length]; exact Nat.le_refl _) (by rw [fix_length]; unfold lim; omega) (fix_ok B64_pos _ _)
      rw [fix_length, val_fix_of_lt HF.out.2] at htr
      have Htr := hide htr
      clear htr hmk hblk hon hrd
      go_wp2_with fail
      refine Htr.out.mono ?_
      rintro e w3 ⟨A3, c3, rfl, hc3, hr3, hb3⟩
      go_wp2_with fail
      go_ret
      exact retsl_mk (below_next hbw hb3) rfl hc3 hr3
end Go.Proofs.Ytincemkjdgbnnaa
