/- FieldRoot answers true for every input, and leaves what it reads as it was: whatever the kind, the three numbers and the bytes. No conditions. -/
import Derived.Test.YtincemkjdgbnnaaRows
import Derived.Test.YtincemkjdgbnnaaRoH
import Derived.Test.YtincemkjdgbnnaaAskP
set_option linter.unusedVariables false
set_option linter.unusedSimpArgs false
namespace Go.Proofs.Ytincemkjdgbnnaa
open Go.ChangeShapes Go.WideShapes Go.ChangeAt Go.RowKit Lm

set_option maxRecDepth 100000 in
set_option maxHeartbeats 3200000 in
theorem root_none (k : Int) (x y z : Nat) (s : Value) (w : World) (hk : ¬ isKind k) :
    Calls Try.prog 8 #[.agg (askCells k x y z s).toArray] w fun e w' => e = .returned (.bool true) ∧ Below w.heap.size w w' := by
  have Hboth := hide (fun W => both_none k W hk)
  go_enter Try.func8, Try.ntmps8
  go_wp2_with (first
    | ((with_reducible refine wpList_box (o := ⟨some 1, _, _, _, _, _⟩) ?_ 27 (.tmp 0) ?_ (askCells k x y z s) ?_ ?_); rfl; rfl; rfl; intro w1 b1 h1 hv1 h3 h4; have hn1 : New w w1 b1 := ⟨by rw [h1]; exact Nat.le_refl _, by rw [h4]; omega, h3⟩; have r0 : w1.cell? ⟨b1, 0, none⟩ = some (.int .i64 k) := hv1.cell 0; clear h1 h3 h4; replace hv1 := hide hv1; replace hn1 := hide hn1)
    | (go_at_call 12; refine (Hboth.out w1).mono ?_; rintro e w2 ⟨rfl, hB2⟩; replace hB2 := hide hB2)
    | ((with_reducible refine wpList_alloc (o := ⟨some 4, _, _, _, _, _⟩) ?_ 32 ?_ [.slice none 0 0, .int .i64 0] Try.zrF ?_); rfl; rfl; intro w4 b4 h1 hv4 h3 h4; have hn4 : New w2 w4 b4 := ⟨by rw [h1]; exact Nat.le_refl _, by rw [h4]; omega, h3⟩; clear h1 h3 h4; replace hn4 := hide hn4)
    | ((with_reducible refine wpList_storeW (o := ⟨none, _, _, _, _, _⟩) ?_ 32 (.tmp 4) (.tmp 19) ?_ ?_ hv4 [.slice none 0 0, .int .i64 0] ?_ szV0 ?_ ?_ ?_); rfl; rfl; rfl; rfl; rfl; rfl; intro w5 hv5 ho5; replace ho5 := hide ho5; replace hv5 := hide hv5))
  go_ret
  have hb14 : b1 < b4 := Nat.lt_of_lt_of_le hn1.out.hi (Nat.le_trans hB2.out.size hn4.out.lo)
  exact ⟨rfl, Only.below (below_next (below_next hn1.out.bl hB2.out) hn4.out.bl) ho5.out (Nat.le_trans hn1.out.lo (Nat.le_of_lt hb14))⟩

theorem root_any (k : Int) (x y z : Nat) (s : Value) (w : World) (ha : x < B64 ^ 6) (hb : y < B64 ^ 6) :
    Calls Try.prog 8 #[.agg (askCells k x y z s).toArray] w fun e w' => e = .returned (.bool true) ∧ Below w.heap.size w w' := by
  by_cases hk : isKind k
  · exact root_c k x y z s w hk ha hb
  · exact root_none k x y z s w hk

set_option maxRecDepth 100000 in
theorem fieldRoot_lifted (os : Os) (started : os.Started) (H : Type) (enc : TypeId × Value → H) :
    ReturnsInHanded {} Try.checked os 8 .any (Rows.fieldRootSpec.pre6 enc Try.prog Try.f8 Rows.fieldRootRow.domain false) (Rows.fieldRootSpec.post enc Try.prog Try.f8 false true false false) := by
  refine returnsInHanded_of_change (C := Try.checked) Try.ownK started (by kernel_rfl) Try.func8
    (ChangeSpec.witness6 (enc := enc) (C := Try.checked) false ⟨#[], #[.agg (askCells 0 0 0 0 (.slice none 0 0)).toArray], []⟩ 8 (by kernel_rfl) (by kernel_rfl) (by kernel_rfl) (by kernel_rfl)) ?_
  intro W base args ds gs before hval0 hW hcnd _
  have hval : ∀ (j : Nat) t v, Try.f8.params[j]? = some t → args[j]? = some v → Value.okWide Try.prog W .any base t v := hval0
  have hW' := hW
  obtain ⟨p, q, hA0, hV, rfl, hfz, hnd⟩ := hW
  have hA : DataW.TrodAll enc Try.prog W 0 (fun _ => true) true Try.f8.params.toList args.toList ds p := hA0
  rw [Try.params8] at hA hval
  obtain ⟨v0, d0, rfl, rfl, h0⟩ := trodAll_one hA
  obtain ⟨rfl, rfl⟩ := trodVars_none hV
  have h0k := h0
  have hv0 := hval 0 27 v0 rfl rfl
  obtain ⟨k, x, y, z, s, rfl, hx, hy, hz⟩ := ask_open hv0
  clear hA0 hval0
  simp only [List.append_nil] at hW'
  have hlt : ∀ c ∈ p, c.block < W.heap.size := fun c hc => hW'.lt c hc
  refine (root_any k x y z s W hx hy).mono fun e W' ⟨he, hB⟩ => ?_
  subst he
  exact ⟨_, rfl, post_of_below (pa := p) (pv := []) hW' (fun _ _ _ => trodAll_mk1 (shut_bool Try.underlying4 true))
    (fun sp hsp => trodAll_mk1 (WideElems.Trod_stays Try.laidOut (by kernel_rfl) (of_decide_eq_true (by kernel_rfl)) h0k (fun c hc => hB.same (hlt c hc)) (fun c hc => hsp c hc)))
    (fun _ _ => rfl) (by simp) hB (ok_one (by kernel_rfl) rfl (okWide_bool_mk Try.underlying4 true))⟩

theorem fieldRoot_holds : Rows.FieldRootSaid :=
  OpenClaim.holds_of_wide 8 Try.f8 rfl rfl rfl rfl rfl rfl rfl ⟨rfl, rfl, rfl, rfl, rfl⟩ rfl rfl rfl rfl rfl (by kernel_rfl) Try.func8 (by kernel_rfl)
    (of_decide_eq_true (by kernel_rfl)) (by unfold Func.isWrapper; first | (rw [if_pos (by decide +kernel)]; kernel_rfl) | (rw [if_neg (by decide +kernel)]; exact ⟨rfl, rfl⟩))
    (fun os started H enc _ => fieldRoot_lifted os started H enc)
end Go.Proofs.Ytincemkjdgbnnaa
