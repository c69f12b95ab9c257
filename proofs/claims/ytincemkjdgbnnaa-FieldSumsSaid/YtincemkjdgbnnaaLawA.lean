/- Walks: the statements' helps (law06): wakes. -/
import Derived.Test.YtincemkjdgbnnaaRefB
set_option linter.unusedVariables false
set_option linter.unusedSimpArgs false
namespace Go.Proofs.Ytincemkjdgbnnaa
open Go.RowKit Lm

theorem wpList_of_wp {P : Program} {ops : Array Oper} {rest : List Oper} {o : Oper} {a : Act} {w : World} {Q : Exit → Act → World → Prop} (hw : Region.wanted o (yielded ops a.tmps) = true) (h : o.wp P a w (wpList P ops Q rest) Q) :
    wpList P ops Q (o :: rest) a w := by
  unfold wpList; rw [if_pos hw]; exact .inl h

set_option maxRecDepth 100000 in
set_option maxHeartbeats 1600000 in
theorem wakes_any (w : World) : Calls Try.prog 61 #[] w fun e w' => e = .returned (.bool true) ∧ Below w.heap.size w w' := by
  have Hnew := hide (fnew_c 3 w (by unfold isKind; omega))
  have e32 : ksz 3 = 32 := rfl
  have hP := hide (show kP 3 = 21888242871839275222246405745257275088696311157297823662689037894645226208583 from rfl)
  have Hnew2 : Hid (Calls Try.prog 59 #[.int .i64 3] w fun e w' => ∃ b bm, e = .returned (.tuple #[.pointer (some ⟨b, 0, none⟩), .int .i64 0]) ∧ FQ w' b bm (kP 3) (kn 3) 32 ∧ w.heap.size ≤ b ∧ w.heap.size ≤ bm ∧ Below w.heap.size w w') := Hnew.out
  clear Hnew e32
  generalize kP 3 = P at *
  generalize kn 3 = n at *
  go_enter Try.func61, Try.ntmps61
  go_upto_region 5 with (first
    | (go_at_call 59; refine Hnew2.out.mono ?_; rintro e w1 ⟨b, bm, rfl, hF, hg1, hg2, hB⟩; replace hF := hide hF; replace hB := hide hB)
    | (go_at_call 31; refine (fsize_c b bm P n 32 w1 hF.out).mono ?_; rintro e w2 ⟨rfl, rfl⟩)
    | (go_at_call 30; refine (fmodulus_c b bm P n 32 _ hF.out).mono ?_; rintro e w3 ⟨rfl, hb3⟩; replace hb3 := hide hb3)
    | ((with_reducible refine allocT 24 (o := ⟨some 3, _, _, _, _, _⟩) ?_ ?_ Try.zr24 ?_); rfl; rfl; intro w4 b4 hv4 hn4)
    | ((with_reducible refine storeT 24 (v' := P) (o := ⟨none, _, _, _, _, _⟩) ?_ (.tmp 3) (.tmp 20) ?_ ?_ ?_ hv4 Try.sz24 ?_); rfl; rfl; rfl; rfl; intro w5 hv5 ho5))
  have HB := hide (Only.below (below_next (below_next hB.out hb3.out) hn4.bl) ho5.out (Nat.le_trans (Nat.le_trans hB.out.size hb3.out.size) hn4.lo))
  have hF5 := hide (((hF.out.next hb3.out).next hn4.bl).only ho5.out (Nat.ne_of_lt (Nat.lt_of_lt_of_le (hF.out.next hb3.out).vb.lt hn4.lo)) (Nat.ne_of_lt (Nat.lt_of_lt_of_le (hF.out.next hb3.out).fb.vb.lt hn4.lo)))
  have hv5 := hide hv5
  have r0 := fix_cell (i := 0) hv5.out (by decide)
  rw [show dg P 0 = 4332616871279656263 by rw [hP.out]; rfl] at r0
  have h00 : eqv 0 0 = true := by rfl
  have h66 : ∀ W, (binOp .eql 24 (vE 6) (.agg #[.int .u64 6, .int .u64 0, .int .u64 0, .int .u64 0, .int .u64 0, .int .u64 0])).run Try.prog W = .ok (.bool true) W := fun W => bin_eqlN 6 6 W
  have g66 : ∀ (a b : Operand) W, (eqGuard .eql 24 a b (vE 6) (.agg #[.int .u64 6, .int .u64 0, .int .u64 0, .int .u64 0, .int .u64 0, .int .u64 0])).run Try.prog W = .ok () W := fun a b W => grdN .eql a b 6 6 W
  have hPl : P < B64 ^ 6 := hF5.out.lt6
  have hPl := hide hPl
  have hred := hide (freduce_c b bm P n 32 P w5 hF5.out hPl.out)
  rw [Nat.mod_self] at hred
  have hsub := hide (fun W h => fsub_c b bm P n 32 1 1 W h (by decide +kernel) (by decide +kernel))
  rw [show (1 + ng P 1) % P = 0 by rw [hP.out]; rfl] at hsub
  have hmul := hide (fun W h => fmul_c b bm P n 32 2 3 W h (by decide +kernel) (by decide +kernel))
  rw [show 2 * 3 % P = 6 by rw [hP.out]] at hmul
  clear hv4 hn4 ho5 hb3 hB hF Hnew2
  go_wp2_with (first
    | ((with_reducible refine wpList_of_wp (o := ⟨some 26, _, _, _, _, _⟩) ?_ (wpE 24 (.tmp 3) rfl hv5.out ?_ Try.underlying24 rfl Try.sz24 ?_)); rfl; rfl)
    | (go_at_call 18; refine hred.out.mono ?_; rintro e w6 ⟨rfl, hb6⟩; replace hb6 := hide hb6)
    | (go_at_call 34; refine (hsub.out w6 (hF5.out.next hb6.out)).mono ?_; rintro e w7 ⟨rfl, hb7⟩; replace hb7 := hide hb7)
    | (go_at_call 19; refine (hmul.out w7 ((hF5.out.next hb6.out).next hb7.out)).mono ?_; rintro e w8 ⟨rfl, hb8⟩; replace hb8 := hide hb8))
  go_ret
  exact ⟨rfl, below_next (below_next (below_next HB.out hb6.out) hb7.out) hb8.out⟩
end Go.Proofs.Ytincemkjdgbnnaa
