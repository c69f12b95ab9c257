/- TowerLaws answers true for every input, and leaves what it reads as it was: whatever the curve, the elements, the exponent. No conditions. -/
import Derived.Test.YtincemkjdgbnnaaRows
import Derived.Test.YtincemkjdgbnnaaTwN
set_option linter.unusedVariables false
set_option linter.unusedSimpArgs false
namespace Go.Proofs.Ytincemkjdgbnnaa
open Go.ChangeShapes Go.WideShapes Go.ChangeAt Go.RowKit Lm

theorem tlaws_any (k : Int) (A B C : N12) (E : Nat) (T : Int) (w : World) (hA : n12ok A) (hB : n12ok B) (hC : n12ok C) (hE : E < B64) (hT : IntKind.i64.has T) :
    Calls Try.prog 10 #[.agg (ask7 k A B C (.int .u64 (E : Int)) (.int .i64 T)).toArray] w fun e w' => e = .returned (.bool true) ∧ Below w.heap.size w w' := by
  by_cases hk : isCurve k
  · exact tlaws_c k A B C _ _ w hk hA hB hC
  · exact tlaws_none k A B C _ _ w hk

set_option maxRecDepth 100000 in
theorem towerLaws_lifted (os : Os) (started : os.Started) (H : Type) (enc : TypeId × Value → H) :
    ReturnsInHanded {} Try.checked os 10 .any (Rows.towerLawsSpec.pre6 enc Try.prog Try.f10 Rows.towerLawsRow.domain false) (Rows.towerLawsSpec.post enc Try.prog Try.f10 false true false false) := by
  refine returnsInHanded_of_change (C := Try.checked) Try.ownK started (by kernel_rfl) Try.func10
    (ChangeSpec.witness6 (enc := enc) (C := Try.checked) false ⟨#[], #[.agg (ask7 0 N12.zero N12.zero N12.zero (.int .u64 0) (.int .i64 0)).toArray], []⟩ 8 (by kernel_rfl) (by kernel_rfl) (by kernel_rfl) (by kernel_rfl)) ?_
  intro W base args ds gs before hval0 hW hcnd _
  have hval : ∀ (j : Nat) t v, Try.f10.params[j]? = some t → args[j]? = some v → Value.okWide Try.prog W .any base t v := hval0
  have hW' := hW
  obtain ⟨p, q, hA0, hV, rfl, hfz, hnd⟩ := hW
  have hA : DataW.TrodAll enc Try.prog W 0 (fun _ => true) true Try.f10.params.toList args.toList ds p := hA0
  rw [Try.params10] at hA hval
  obtain ⟨v0, d0, rfl, rfl, h0⟩ := trodAll_one hA
  obtain ⟨rfl, rfl⟩ := trodVars_none hV
  have h0k := h0
  obtain ⟨k, A, B, C, E, T, rfl, hA', hB', hC', hE', hT'⟩ := ask7_open (hval 0 66 v0 rfl rfl)
  clear hA0 hval0
  simp only [List.append_nil] at hW'
  have hlt : ∀ c ∈ p, c.block < W.heap.size := fun c hc => hW'.lt c hc
  refine (tlaws_any k A B C E T W hA' hB' hC' hE' hT').mono fun e W' ⟨he, hB⟩ => ?_
  subst he
  exact ⟨_, rfl, post_of_below (pa := p) (pv := []) hW' (fun _ _ _ => trodAll_mk1 (shut_bool Try.underlying4 true))
    (fun sp hsp => trodAll_mk1 (WideElems.Trod_stays Try.laidOut (by kernel_rfl) (of_decide_eq_true (by kernel_rfl)) h0k (fun c hc => hB.same (hlt c hc)) (fun c hc => hsp c hc)))
    (fun _ _ => rfl) (by simp) hB (ok_one (by kernel_rfl) rfl (okWide_bool_mk Try.underlying4 true))⟩

theorem towerLaws_holds : Rows.TowerLawsSaid :=
  OpenClaim.holds_of_wide 10 Try.f10 rfl rfl rfl rfl rfl rfl rfl ⟨rfl, rfl, rfl, rfl, rfl⟩ rfl rfl rfl rfl rfl (by kernel_rfl) Try.func10 (by kernel_rfl)
    (of_decide_eq_true (by kernel_rfl)) (by unfold Func.isWrapper; first | (rw [if_pos (by decide +kernel)]; kernel_rfl) | (rw [if_neg (by decide +kernel)]; exact ⟨rfl, rfl⟩))
    (fun os started H enc _ => towerLaws_lifted os started H enc)
end Go.Proofs.Ytincemkjdgbnnaa
