/- FieldCodes answers true for every input, and leaves what it reads as it was: whatever the kind, the three numbers and both lists of bytes. No conditions. -/
import Derived.Test.YtincemkjdgbnnaaRows
import Derived.Test.YtincemkjdgbnnaaCodB
import Derived.Test.YtincemkjdgbnnaaAskP
set_option linter.unusedVariables false
set_option linter.unusedSimpArgs false
namespace Go.Proofs.Ytincemkjdgbnnaa
open Go.ChangeShapes Go.WideShapes Go.ChangeAt Go.RowKit Lm

set_option maxRecDepth 100000 in
set_option maxHeartbeats 3200000 in
theorem codes_none (k : Int) (x y z : Nat) (s r : Value) (w : World) (hk : ¬ isKind k) :
    Calls Try.prog 4 #[.agg (askCells k x y z s).toArray, r] w fun e w' => e = .returned (.bool true) ∧ Below w.heap.size w w' := by
  have Hboth := hide (fun W => both_none k W hk)
  go_enter Try.func4, Try.ntmps4
  go_wp2_with (first
    | ((with_reducible refine wpList_box (o := ⟨some 2, _, _, _, _, _⟩) ?_ 27 (.tmp 0) ?_ (askCells k x y z s) ?_ ?_); rfl; rfl; rfl; intro w1 b1 h1 hv1 h3 h4; have hn1 : New w w1 b1 := ⟨by rw [h1]; exact Nat.le_refl _, by rw [h4]; omega, h3⟩; have r0 : w1.cell? ⟨b1, 0, none⟩ = some (.int .i64 k) := hv1.cell 0; clear h1 h3 h4; replace hv1 := hide hv1; replace hn1 := hide hn1)
    | (go_at_call 12; refine (Hboth.out w1).mono ?_; rintro e w2 ⟨rfl, hB2⟩; replace hB2 := hide hB2)
    | ((with_reducible refine wpList_alloc (o := ⟨some 6, _, _, _, _, _⟩) ?_ 32 ?_ [.slice none 0 0, .int .i64 0] Try.zrF ?_); rfl; rfl; intro w4 b4 h1 hv4 h3 h4; have hn4 : New w2 w4 b4 := ⟨by rw [h1]; exact Nat.le_refl _, by rw [h4]; omega, h3⟩; clear h1 h3 h4; replace hn4 := hide hn4)
    | ((with_reducible refine wpList_storeW (o := ⟨none, _, _, _, _, _⟩) ?_ 32 (.tmp 6) (.tmp 20) ?_ ?_ hv4 [.slice none 0 0, .int .i64 0] ?_ szV0 ?_ ?_ ?_); rfl; rfl; rfl; rfl; rfl; rfl; intro w5 hv5 ho5; replace ho5 := hide ho5; replace hv5 := hide hv5))
  go_ret
  have hb14 : b1 < b4 := Nat.lt_of_lt_of_le hn1.out.hi (Nat.le_trans hB2.out.size hn4.out.lo)
  exact ⟨rfl, Only.below (below_next (below_next hn1.out.bl hB2.out) hn4.out.bl) ho5.out (Nat.le_trans hn1.out.lo (Nat.le_of_lt hb14))⟩

theorem codes_any (k : Int) (x y z : Nat) (s : Value) (R : Option Addr) (cr : Nat) (l : List Nat) (w : World) (ha : x < B64 ^ 6) (hr : Rd w .u8 R l) (hle : l.length ≤ cr) (hok : Ok 256 l) :
    Calls Try.prog 4 #[.agg (askCells k x y z s).toArray, .slice R l.length cr] w fun e w' => e = .returned (.bool true) ∧ Below w.heap.size w w' := by
  by_cases hk : isKind k
  · exact codes_c k x y z s R cr l w hk ha hr hle hok
  · exact codes_none k x y z s _ w hk

set_option maxRecDepth 100000 in
/-- an argument that is a list of bytes, opened. -/
theorem slice_arg {H : Type} {enc : TypeId × Value → H} {W : World} {base : Nat} {v : Value} {d : DataW H} {p : List MemPlace} (hv : Value.okWide Try.prog W .any base 25 v) (h : DataW.Trod enc Try.prog W 0 (fun _ => true) true 25 v d p) :
    ∃ A l c, v = .slice A l.length c ∧ l.length ≤ c ∧ Rd W .u8 A l ∧ Ok 256 l := by
  unfold Value.okWide at hv
  rw [Try.underlying25] at hv
  obtain ⟨fuel, hf⟩ := h
  have hc : v.cells.toList = [v] := by
    have hv' := hv
    dsimp only at hv'
    unfold Cell.okWide at hv'
    rw [Try.underlying25] at hv'
    unfold Cell.ok at hv'
    rw [Try.underlying25] at hv'
    cases v <;> simp at hv' <;> rfl
  rw [hc] at hf
  exact bytes_open hv hf

set_option maxRecDepth 100000 in
theorem fieldCodes_lifted (os : Os) (started : os.Started) (H : Type) (enc : TypeId × Value → H) :
    ReturnsInHanded {} Try.checked os 4 .any (Rows.fieldCodesSpec.pre6 enc Try.prog Try.f4 Rows.fieldCodesRow.domain false) (Rows.fieldCodesSpec.post enc Try.prog Try.f4 false true false false) := by
  refine returnsInHanded_of_change (C := Try.checked) Try.ownK started (by kernel_rfl) Try.func4
    (ChangeSpec.witness6 (enc := enc) (C := Try.checked) false ⟨#[], #[.agg (askCells 0 0 0 0 (.slice none 0 0)).toArray, .slice none 0 0], []⟩ 8 (by kernel_rfl) (by kernel_rfl) (by kernel_rfl) (by kernel_rfl)) ?_
  intro W base args ds gs before hval0 hW hcnd _
  have hval : ∀ (j : Nat) t v, Try.f4.params[j]? = some t → args[j]? = some v → Value.okWide Try.prog W .any base t v := hval0
  have hW' := hW
  obtain ⟨p, q, hA0, hV, rfl, hfz, hnd⟩ := hW
  have hA : DataW.TrodAll enc Try.prog W 0 (fun _ => true) true Try.f4.params.toList args.toList ds p := hA0
  rw [Try.params4] at hA hval
  obtain ⟨v0, v1, d0, d1, p0, p1, rfl, rfl, rfl, h0, h1⟩ := trodAll_two hA
  obtain ⟨rfl, rfl⟩ := trodVars_none hV
  have h0k := h0
  have h1k := h1
  have hv0 := hval 0 27 v0 rfl rfl
  have hv1 := hval 1 25 v1 rfl rfl
  obtain ⟨k, x, y, z, s, rfl, hx, hy, hz⟩ := ask_open hv0
  obtain ⟨R, l, cr, rfl, hle, hrd, hok⟩ := slice_arg hv1 h1
  clear hA0 hval0
  simp only [List.append_nil] at hW'
  have hlt : ∀ c ∈ p0 ++ p1, c.block < W.heap.size := fun c hc => hW'.lt c hc
  refine (codes_any k x y z s R cr l W hx hrd hle hok).mono fun e W' ⟨he, hB⟩ => ?_
  subst he
  exact ⟨_, rfl, post_of_below (pa := p0 ++ p1) (pv := []) hW' (fun _ _ _ => trodAll_mk1 (shut_bool Try.underlying4 true))
    (fun sp hsp => trodAll_mk2 (WideElems.Trod_stays Try.laidOut (by kernel_rfl) (of_decide_eq_true (by kernel_rfl)) h0k (fun c hc => hB.same (hlt c (List.mem_append_left _ hc))) (fun c hc => hsp c (List.mem_append_left _ hc)))
      (WideElems.Trod_stays Try.laidOut (by kernel_rfl) (of_decide_eq_true (by kernel_rfl)) h1k (fun c hc => hB.same (hlt c (List.mem_append_right _ hc))) (fun c hc => hsp c (List.mem_append_right _ hc))))
    (fun _ _ => rfl) (by simp) hB (ok_one (by kernel_rfl) rfl (okWide_bool_mk Try.underlying4 true))⟩

theorem fieldCodes_holds : Rows.FieldCodesSaid :=
  OpenClaim.holds_of_wide 4 Try.f4 rfl rfl rfl rfl rfl rfl rfl ⟨rfl, rfl, rfl, rfl, rfl⟩ rfl rfl rfl rfl rfl (by kernel_rfl) Try.func4 (by kernel_rfl)
    (of_decide_eq_true (by kernel_rfl)) (by unfold Func.isWrapper; first | (rw [if_pos (by decide +kernel)]; kernel_rfl) | (rw [if_neg (by decide +kernel)]; exact ⟨rfl, rfl⟩))
    (fun os started H enc _ => fieldCodes_lifted os started H enc)
end Go.Proofs.Ytincemkjdgbnnaa
