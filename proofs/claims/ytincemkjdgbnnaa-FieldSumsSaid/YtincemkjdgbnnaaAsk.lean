/- What is asked of the fields' statements, opened: any value of that type is a kind, three numbers below 2^384, and a list of bytes. -/
import Derived.Test.YtincemkjdgbnnaaLawD
import Derived.Test.YtincemkjdgbnnaaOpn
import Derived.ProofKit
set_option linter.unusedVariables false
set_option linter.unusedSimpArgs false
namespace Go.Proofs.Ytincemkjdgbnnaa
open Go.RowKit Lm

theorem Try.ownK : ownKnob Try.prog.godebug = none := by kernel_rfl
theorem Try.laidOut : laidOutB Try.prog = true := by kernel_rfl
theorem Try.askTypes : Try.prog.cellTypes Try.prog.depth 27 = some [3, 22, 22, 22, 22, 22, 22, 22, 22, 22, 22, 22, 22, 22, 22, 22, 22, 22, 22, 25] := by kernel_rfl
theorem Try.askCellsOf : Try.prog.cellsOf 27 = 20 := by kernel_rfl

theorem split20 {L : List Value} (h : L.length = 20) : ∃ v s, L = v :: ((L.drop 1).take 6 ++ ((L.drop 7).take 6 ++ ((L.drop 13).take 6 ++ [s]))) ∧ L[0]? = some v ∧ L[19]? = some s := by
  obtain ⟨v, r, rfl⟩ : ∃ v r, L = v :: r := by cases L with
    | nil => cases h
    | cons v r => exact ⟨v, r, rfl⟩
  have e1 : r = r.take 6 ++ r.drop 6 := (List.take_append_drop 6 r).symm
  have e2 : r.drop 6 = (r.drop 6).take 6 ++ r.drop 12 := by
    conv => lhs; rw [← List.take_append_drop 6 (r.drop 6), List.drop_drop]
  have e3 : r.drop 12 = (r.drop 12).take 6 ++ r.drop 18 := by
    conv => lhs; rw [← List.take_append_drop 6 (r.drop 12), List.drop_drop]
  have h18 : (r.drop 18).length = 1 := by simp at h ⊢; omega
  obtain ⟨s, hs⟩ := List.length_eq_one_iff.1 h18
  refine ⟨v, s, ?_, rfl, ?_⟩
  · congr 1
    show r = r.take 6 ++ ((r.drop 6).take 6 ++ ((r.drop 12).take 6 ++ [s]))
    rw [← hs, ← e3, ← e2, ← e1]
  · have : (r.drop 18)[0]? = some s := by rw [hs]; rfl
    rw [List.getElem?_drop] at this
    exact this

set_option maxRecDepth 100000 in
theorem ask_open {W : World} {base : Nat} {v : Value} (h : Value.okWide Try.prog W .any base 27 v) :
    ∃ k x y z s, v = .agg (askCells k x y z s).toArray ∧ x < B64 ^ 6 ∧ y < B64 ^ 6 ∧ z < B64 ^ 6 := by
  unfold Value.okWide at h
  rw [Try.underlying27] at h
  obtain ⟨cs, rfl, hsz, hrow⟩ := h
  rw [Try.askCellsOf] at hsz
  obtain ⟨x, hx, ex⟩ := row_ve hrow Try.askTypes Try.underlying22 1 (by decide) (by omega)
  obtain ⟨y, hy, ey⟩ := row_ve hrow Try.askTypes Try.underlying22 7 (by decide) (by omega)
  obtain ⟨z, hz, ez⟩ := row_ve hrow Try.askTypes Try.underlying22 13 (by decide) (by omega)
  obtain ⟨v, s, e, h0, h19⟩ := split20 (L := cs.toList) (by simpa using hsz)
  obtain ⟨ts, ht, _, hc⟩ := hrow
  rw [Try.askTypes] at ht
  injection ht with ht
  subst ht
  obtain ⟨u, hu, hok⟩ := hc 0 v (by simpa using h0)
  injection hu with hu
  subst hu
  obtain ⟨k, rfl, _⟩ := cell_int Try.underlying3 hok
  rw [ex, ey, ez] at e
  exact ⟨k, x, y, z, s, by rw [show askCells k x y z s = cs.toList from e.symm], hx, hy, hz⟩
end Go.Proofs.Ytincemkjdgbnnaa
