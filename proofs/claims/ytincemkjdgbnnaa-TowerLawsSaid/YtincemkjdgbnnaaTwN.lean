/- Walks: law07.TowerLaws where there is no such tower; what is asked of the towers' statements, opened. -/
import Derived.Test.YtincemkjdgbnnaaTwM
import Derived.Test.YtincemkjdgbnnaaAskP
set_option linter.unusedVariables false
set_option linter.unusedSimpArgs false
namespace Go.Proofs.Ytincemkjdgbnnaa
open Go.RowKit Lm

theorem Try.askTypes7 : Try.prog.cellTypes Try.prog.depth 66 = some (3 :: (List.replicate 217 22 ++ [3])) := by kernel_rfl
theorem Try.askCellsOf7 : Try.prog.cellsOf 66 = 219 := by kernel_rfl
theorem in7 {off : Nat} (h1 : 1 ≤ off) (h2 : off + 6 ≤ 218) : ∀ j, j < 6 → (3 :: (List.replicate 217 22 ++ [3]))[(off + j) % (3 :: (List.replicate 217 22 ++ [3])).length]? = some 22 := by
  intro j hj
  have hl : (3 :: (List.replicate 217 22 ++ [3])).length = 219 := by rw [List.length_cons, List.length_append, List.length_replicate]; rfl
  rw [hl, Nat.mod_eq_of_lt (by omega)]
  obtain ⟨m, hm⟩ : ∃ m, off + j = m + 1 := ⟨off + j - 1, by omega⟩
  rw [hm, List.getElem?_cons_succ, List.getElem?_append_left (by rw [List.length_replicate]; omega), List.getElem?_replicate, if_pos (by omega)]
section
variable {W : World} {r : Reach} {base : Nat} {cs : Array Value}
theorem row_n2 (h : Row.okWide Try.prog W r base 66 cs) (hs : cs.size = 219) (off : Nat) (h1 : 1 ≤ off) (h2 : off + 12 ≤ 218) : ∃ x, n2ok x ∧ (cs.toList.drop off).take 12 = n2 x := by
  obtain ⟨x, hx, ex⟩ := row_ve h Try.askTypes7 Try.underlying22 off (in7 h1 (by omega)) (by omega)
  obtain ⟨y, hy, ey⟩ := row_ve h Try.askTypes7 Try.underlying22 (off + 6) (in7 (by omega) (by omega)) (by omega)
  refine ⟨⟨x, y⟩, ⟨hx, hy⟩, ?_⟩
  rw [show 12 = 6 + 6 from rfl, List.take_add, List.drop_drop, ex, ey]; rfl
theorem row_n6 (h : Row.okWide Try.prog W r base 66 cs) (hs : cs.size = 219) (off : Nat) (h1 : 1 ≤ off) (h2 : off + 36 ≤ 218) : ∃ x, n6ok x ∧ (cs.toList.drop off).take 36 = n6 x := by
  obtain ⟨x, hx, ex⟩ := row_n2 h hs off h1 (by omega)
  obtain ⟨y, hy, ey⟩ := row_n2 h hs (off + 12) (by omega) (by omega)
  obtain ⟨z, hz, ez⟩ := row_n2 h hs (off + 12 + 12) (by omega) (by omega)
  refine ⟨⟨x, y, z⟩, ⟨hx, hy, hz⟩, ?_⟩
  rw [show 36 = 12 + (12 + 12) from rfl, List.take_add, List.take_add, List.drop_drop, List.drop_drop, ex, ey, ez]; rfl
theorem row_n12 (h : Row.okWide Try.prog W r base 66 cs) (hs : cs.size = 219) (off : Nat) (h1 : 1 ≤ off) (h2 : off + 72 ≤ 218) : ∃ x, n12ok x ∧ (cs.toList.drop off).take 72 = n12 x := by
  obtain ⟨x, hx, ex⟩ := row_n6 h hs off h1 (by omega)
  obtain ⟨y, hy, ey⟩ := row_n6 h hs (off + 36) (by omega) (by omega)
  refine ⟨⟨x, y⟩, ⟨hx, hy⟩, ?_⟩
  rw [show 72 = 36 + 36 from rfl, List.take_add, List.drop_drop, ex, ey]; rfl
end
theorem split219 {L : List Value} (h : L.length = 219) : ∃ v e t, L = v :: ((L.drop 1).take 72 ++ ((L.drop 73).take 72 ++ ((L.drop 145).take 72 ++ [e, t]))) ∧ L[0]? = some v ∧ L[217]? = some e ∧ L[218]? = some t := by
  obtain ⟨v, r, rfl⟩ : ∃ v r, L = v :: r := by cases L with
    | nil => cases h
    | cons v r => exact ⟨v, r, rfl⟩
  have hr : r.length = 218 := by simpa using h
  have e1 : r = r.take 72 ++ r.drop 72 := (List.take_append_drop 72 r).symm
  have e2 : r.drop 72 = (r.drop 72).take 72 ++ r.drop 144 := by
    conv => lhs; rw [← List.take_append_drop 72 (r.drop 72), List.drop_drop]
  have e3 : r.drop 144 = (r.drop 144).take 72 ++ r.drop 216 := by
    conv => lhs; rw [← List.take_append_drop 72 (r.drop 144), List.drop_drop]
  have h2 : (r.drop 216).length = 2 := by simp [hr]
  obtain ⟨e, t, hs⟩ : ∃ e t, r.drop 216 = [e, t] := by
    generalize r.drop 216 = q at h2
    match q, h2 with
    | [e, t], _ => exact ⟨e, t, rfl⟩
  refine ⟨v, e, t, ?_, rfl, ?_, ?_⟩
  · congr 1
    show r = r.take 72 ++ ((r.drop 72).take 72 ++ ((r.drop 144).take 72 ++ [e, t]))
    rw [← hs, ← e3, ← e2, ← e1]
  · have : (r.drop 216)[0]? = some e := by rw [hs]; rfl
    rw [List.getElem?_drop] at this
    exact this
  · have : (r.drop 216)[1]? = some t := by rw [hs]; rfl
    rw [List.getElem?_drop] at this
    exact this

set_option maxRecDepth 100000 in
theorem ask7_open {W : World} {base : Nat} {v : Value} (h : Value.okWide Try.prog W .any base 66 v) :
    ∃ (k : Int) (A B C : N12) (E : Nat) (T : Int), v = .agg (ask7 k A B C (.int .u64 (E : Int)) (.int .i64 T)).toArray ∧ n12ok A ∧ n12ok B ∧ n12ok C ∧ E < B64 ∧ IntKind.i64.has T := by
  unfold Value.okWide at h
  rw [Try.underlying66] at h
  obtain ⟨cs, rfl, hsz, hrow⟩ := h
  rw [Try.askCellsOf7] at hsz
  obtain ⟨x, hx, ex⟩ := row_n12 hrow hsz 1 (by decide) (by decide)
  obtain ⟨y, hy, ey⟩ := row_n12 hrow hsz 73 (by decide) (by decide)
  obtain ⟨z, hz, ez⟩ := row_n12 hrow hsz 145 (by decide) (by decide)
  obtain ⟨v, e, t, eq, h0, h217, h218⟩ := split219 (L := cs.toList) (by simpa using hsz)
  rw [ex, ey, ez] at eq
  obtain ⟨ts', h1, _, h3⟩ := hrow
  rw [Try.askTypes7] at h1
  injection h1 with h1
  subst h1
  obtain ⟨u0, hu0, hok0⟩ := h3 0 v (by rw [← Array.getElem?_toList]; exact h0)
  obtain ⟨u1, hu1, hok1⟩ := h3 217 e (by rw [← Array.getElem?_toList]; exact h217)
  obtain ⟨u2, hu2, hok2⟩ := h3 218 t (by rw [← Array.getElem?_toList]; exact h218)
  obtain rfl : 3 = u0 := by simpa using hu0
  obtain rfl : 22 = u1 := by injection hu1
  obtain rfl : 3 = u2 := by injection hu2
  obtain ⟨k, rfl, _⟩ := cell_int Try.underlying3 hok0
  obtain ⟨n, rfl, hn⟩ := cell_int Try.underlying22 hok1
  obtain ⟨T, rfl, hT⟩ := cell_int Try.underlying3 hok2
  have hn' : 0 ≤ n ∧ n < 2 ^ 64 := by
    unfold IntKind.has at hn
    simp [IntKind.min, IntKind.max, IntKind.signed, IntKind.bits] at hn
    omega
  refine ⟨k, x, y, z, n.toNat, T, ?_, hx, hy, hz, ?_, hT⟩
  · rw [Int.toNat_of_nonneg hn'.1]
    congr 1
    apply Array.ext'
    exact eq
  · have : B64 = 2 ^ 64 := rfl
    omega

set_option maxRecDepth 100000 in
set_option maxHeartbeats 3200000 in
theorem tlaws_none (k : Int) (A B C : N12) (E T : Value) (w : World) (hk : ¬ isCurve k) :
    Calls Try.prog 10 #[.agg (ask7 k A B C E T).toArray] w fun e w' => e = .returned (.bool true) ∧ Below w.heap.size w w' := by
  have Hboth := hide (fun W => both7_none W hk)
  have hq0 := hide (St.start w)
  go_enter Try.func10, Try.ntmps10
  go_upto_region 1 with ((with_reducible refine boxS (o := ⟨some 1, _, _, _, _, _⟩) ?_ 66 (.tmp 0) ?_ hq0.out (ask7 k A B C E T) ?_ ?_); rfl; rfl; rfl; intro w1 b1 hS; have hq1 : Hid (St w w1 [⟨b1, 66, ask7 k A B C E T⟩]) := hide hS; clear hS)
  have r0 : w1.cell? ⟨b1, 0, none⟩ = some (.int .i64 k) := ((hq1.out.vb 0 _ rfl).cell 0).trans rfl
  go_wp2_with (first
    | (go_at_call 41; refine (Hboth.out w1).mono ?_; rintro e w2 ⟨L, hL, hL1, rfl, hB2⟩; replace hL := hide hL; replace hL1 := hide hL1; replace hB2 := hide hB2; have hq2 := hide (hq1.out.next hB2.out))
    | ((with_reducible refine allocS (o := ⟨some 4, _, _, _, _, _⟩) ?_ 69 ?_ hq2.out vT0 Try.zrT ?_); rfl; rfl; intro w3 b4 hS; have hq3 : Hid (St w w3 [⟨b1, 66, ask7 k A B C E T⟩, ⟨b4, 69, vT0⟩]) := hide hS; clear hS)
    | ((with_reducible refine storeWS (n := 3) (o := ⟨none, _, _, _, _, _⟩) ?_ 69 (.tmp 4) (.tmp 19) ?_ hq3.out 1 (c := ⟨b4, 69, vT0⟩) ?_ ?_ L ?_ ?_ ?_ ?_ Try.szT ?_); rfl; rfl; rfl; rfl; rfl; (exact hL.out); rfl; (exact hL1.out); intro w0 hS hO; have hq4 := hide hS; clear hS hO))
  go_ret
  exact ⟨rfl, hq4.out.bl⟩
end Go.Proofs.Ytincemkjdgbnnaa
