/- Walks: tower.New, quarryref07.Of. -/
import Derived.Test.YtincemkjdgbnnaaTwF
set_option linter.unusedVariables false
set_option linter.unusedSimpArgs false
namespace Go.Proofs.Ytincemkjdgbnnaa
open Go.RowKit Lm

/-- a curve's tower: its prime's kind, the number in x. -/
def isCurve (c : Int) : Prop := c = 2 ∨ c = 3
def cK (c : Int) : Int := if c = 2 then 3 else 5
def cN (c : Int) : Nat := if c = 2 then 9 else 1
theorem cK_ok {c : Int} (h : isCurve c) : isKind (cK c) := by
  rcases h with rfl | rfl <;> unfold isKind cK <;> simp

theorem fmont_c {b bm P n size : Nat} {w : World} (hF : FQ w b bm P n size) :
    Calls Try.prog 129 #[.pointer (some ⟨b, 0, none⟩)] w fun e w' => e = .returned (.pointer (some ⟨bm, 0, none⟩)) ∧ w' = w := by
  go_enter Try.func129, Try.ntmps129
  have c1 := hF.cellM
  have hF := hide hF
  go_wp2_with fail
  go_ret
  exact ⟨rfl, rfl⟩

/-- a call hands back a tower. -/
def RetT (w : World) (P n size : Nat) (N : Nat) (e : Ending) (w' : World) : Prop :=
  ∃ tb bf bt bm, e = .returned (.tuple #[.pointer (some ⟨tb, 0, none⟩), .int .i64 0]) ∧ TW w' tb bf bt bm P n size (N : Int) (fr6 P n (N : Int)) ∧ w.heap.size ≤ tb ∧ w.heap.size ≤ bf ∧ w.heap.size ≤ bt ∧ w.heap.size ≤ bm ∧ Below w.heap.size w w'
theorem Try.bldW (b c : Nat) (w : World) : (Instr.build 130 #[(0, .pointer (some ⟨b, 0, none⟩)), (1, .pointer (some ⟨c, 0, none⟩))]).run Try.prog w = .ok (.agg ([.pointer (some ⟨b, 0, none⟩), .pointer (some ⟨c, 0, none⟩)] : List Value).toArray) w := by kernel_rfl

set_option maxRecDepth 100000 in
set_option maxHeartbeats 3200000 in
theorem tnew_2 (w : World) : Calls Try.prog 82 #[.int .i64 2] w (RetT w (kP 3) (kn 3) (ksz 3) 9) := by
  have Hnew := hide (fun W => fnew_c 3 W (by unfold isKind; omega))
  have HI : Hid (InvOk (kP 3)) := hide kok3.inv
  unfold RetK at Hnew
  generalize kP 3 = P at *
  generalize kn 3 = n at *
  generalize ksz 3 = sz at *
  have hq0 := hide (St.start w)
  go_enter Try.func82, Try.ntmps82
  go_wp2_with (first
    | (go_at_call 59; refine (Hnew.out w).mono ?_; rintro e w2 ⟨b, bm, rfl, hF, hg1, hg2, hB⟩; replace hF := hide hF; replace hB := hide hB)
    | (go_at_call 129; refine (fmont_c hF.out).mono ?_; rintro e w3 ⟨rfl, rfl⟩)
    | (go_at_call 128; refine (xnew 9 hF.out.fb HI.out (by decide)).mono ?_; rintro e w4 ⟨bt, rfl, hT, hg3, hB4⟩; replace hT := hide hT; replace hB4 := hide hB4; have hq4 := hide (hq0.out.next (below_next hB.out hB4.out)); have hF4 := hide (hF.out.next hB4.out))
    | ((with_reducible refine wpList_of_wpK (o := ⟨some 26, _, _, _, _, _⟩) ?_ (wp_buildV (v := .agg ([.pointer (some ⟨b, 0, none⟩), .pointer (some ⟨bt, 0, none⟩)] : List Value).toArray) ?_ ?_ ?_)); rfl; rfl; (exact Try.bldW _ _ _))
    | ((with_reducible refine wpList_box (o := ⟨some 27, _, _, _, _, _⟩) ?_ 130 (.tmp 26) ?_ [.pointer (some ⟨b, 0, none⟩), .pointer (some ⟨bt, 0, none⟩)] ?_ ?_); rfl; rfl; rfl; intro w5 tb h1 hv5 h3 h4; have hn5 : New w4 w5 tb := ⟨by rw [h1]; exact Nat.le_refl _, by rw [h4]; omega, h3⟩; clear h1 h3 h4))
  go_ret2
  have hB24 := below_next hB.out hB4.out
  exact ⟨tb, b, bt, bm, rfl, ⟨hv5, hF4.out.next hn5.bl, hT.out.next hn5.bl⟩, Nat.le_trans hB24.size hn5.lo, hg1, Nat.le_trans hB.out.size hg3, hg2, below_next hB24 hn5.bl⟩

set_option maxRecDepth 100000 in
set_option maxHeartbeats 3200000 in
theorem tnew_3 (w : World) : Calls Try.prog 82 #[.int .i64 3] w (RetT w (kP 5) (kn 5) (ksz 5) 1) := by
  have Hnew := hide (fun W => fnew_c 5 W (by unfold isKind; omega))
  have HI : Hid (InvOk (kP 5)) := hide kok5.inv
  unfold RetK at Hnew
  generalize kP 5 = P at *
  generalize kn 5 = n at *
  generalize ksz 5 = sz at *
  have hq0 := hide (St.start w)
  go_enter Try.func82, Try.ntmps82
  go_wp2_with (first
    | (go_at_call 59; refine (Hnew.out w).mono ?_; rintro e w2 ⟨b, bm, rfl, hF, hg1, hg2, hB⟩; replace hF := hide hF; replace hB := hide hB)
    | (go_at_call 129; refine (fmont_c hF.out).mono ?_; rintro e w3 ⟨rfl, rfl⟩)
    | (go_at_call 128; refine (xnew 1 hF.out.fb HI.out (by decide)).mono ?_; rintro e w4 ⟨bt, rfl, hT, hg3, hB4⟩; replace hT := hide hT; replace hB4 := hide hB4; have hq4 := hide (hq0.out.next (below_next hB.out hB4.out)); have hF4 := hide (hF.out.next hB4.out))
    | ((with_reducible refine wpList_of_wpK (o := ⟨some 26, _, _, _, _, _⟩) ?_ (wp_buildV (v := .agg ([.pointer (some ⟨b, 0, none⟩), .pointer (some ⟨bt, 0, none⟩)] : List Value).toArray) ?_ ?_ ?_)); rfl; rfl; (exact Try.bldW _ _ _))
    | ((with_reducible refine wpList_box (o := ⟨some 27, _, _, _, _, _⟩) ?_ 130 (.tmp 26) ?_ [.pointer (some ⟨b, 0, none⟩), .pointer (some ⟨bt, 0, none⟩)] ?_ ?_); rfl; rfl; rfl; intro w5 tb h1 hv5 h3 h4; have hn5 : New w4 w5 tb := ⟨by rw [h1]; exact Nat.le_refl _, by rw [h4]; omega, h3⟩; clear h1 h3 h4))
  go_ret2
  have hB24 := below_next hB.out hB4.out
  exact ⟨tb, b, bt, bm, rfl, ⟨hv5, hF4.out.next hn5.bl, hT.out.next hn5.bl⟩, Nat.le_trans hB24.size hn5.lo, hg1, Nat.le_trans hB.out.size hg3, hg2, below_next hB24 hn5.bl⟩

theorem tnew_c {c : Int} (w : World) (h : isCurve c) : Calls Try.prog 82 #[.int .i64 c] w (RetT w (kP (cK c)) (kn (cK c)) (ksz (cK c)) (cN c)) := by
  rcases h with rfl | rfl
  · exact tnew_2 w
  · exact tnew_3 w
theorem tnew_none {c : Int} (w : World) (h : ¬ isCurve c) : Calls Try.prog 82 #[.int .i64 c] w fun e w' => e = .returned (.tuple #[.pointer none, .int .i64 1]) ∧ w' = w := by
  have h2 : ((c : Int) == 2) = false := by
    rw [beq_eq_false_iff_ne]; intro e; exact h (Or.inl e)
  have h3 : ((c : Int) == 3) = false := by
    rw [beq_eq_false_iff_ne]; intro e; exact h (Or.inr e)
  have h2' : c ≠ 2 := fun e => h (Or.inl e)
  have h3' : c ≠ 3 := fun e => h (Or.inr e)
  have Hnew := hide (fun W => fnew_none 0 W (by unfold isKind; omega))
  go_enter Try.func82, Try.ntmps82
  go_wp2_with (go_at_call 59; refine (Hnew.out w).mono ?_; rintro e w2 ⟨rfl, rfl⟩)
  go_ret2
  exact ⟨rfl, rfl⟩
end Go.Proofs.Ytincemkjdgbnnaa
