/- Walks: the reference's field (ref06): Of. -/
import Derived.Test.YtincemkjdgbnnaaRefA
set_option linter.unusedVariables false
set_option linter.unusedSimpArgs false
namespace Go.Proofs.Ytincemkjdgbnnaa
open Go.RowKit Lm

/-- the reference's field, by value: its prime's digits, its size. -/
def vF (A : Option Addr) (P c size : Nat) : List Value := [.slice A (digs B32 P).length c, .int .i64 (size : Int)]
theorem Try.szF : (Try.prog.info? 32).map (·.size) = some 2 := by kernel_rfl
theorem Try.zrF : (Try.prog.info? 32).map (·.zero) = some (some (.agg ([.slice none 0 0, .int .i64 0] : List Value).toArray)) := by kernel_rfl
theorem szVF (A : Option Addr) (P c size : Nat) : (Try.prog.info? 32).map (·.size) = some (vF A P c size).length := Try.szF
theorem szV0 : (Try.prog.info? 32).map (·.size) = some ([.slice none 0 0, .int .i64 0] : List Value).length := Try.szF
/-- a list that lies in another block than a block without such cells. -/
theorem Rd.apart {w w' : World} {k : IntKind} {A : Option Addr} {l : List Nat} {b : Nat} {t : TypeId} {L : List Value} (h : Rd w k A l) (hv : VB w b t L) (hL : ∀ x ∈ L, ∀ n, x ≠ .int k n) (ho : Only w w' b) : Rd w' k A l := fun hl => by
  obtain ⟨b', off, rfl, hrow⟩ := h hl
  refine ⟨b', off, rfl, ho.row hrow fun e => ?_⟩
  subst e
  have := hrow 0 hl
  rw [hv.cell] at this
  exact hL _ (List.mem_of_getElem? this) _ rfl
theorem noU32 : ∀ x ∈ ([.slice none 0 0, .int .i64 0] : List Value), ∀ n, x ≠ .int .u32 n := fun x h n => by
  simp only [List.mem_cons, List.not_mem_nil, or_false] at h
  rcases h with rfl | rfl <;> simp
/-- a call hands back the reference's field. -/
def RetRF (w : World) (P size : Nat) (e : Ending) (w' : World) : Prop :=
  ∃ A c, e = .returned (.tuple #[.agg (vF A P c size).toArray, .bool true]) ∧ (digs B32 P).length ≤ c ∧ Rd w' .u32 A (digs B32 P) ∧ Below w.heap.size w w'

/-- the end of a function with two results: a struct that lies in a block, and a slot. -/
theorem retFT {fn : Func} {R : Ending → World → Prop} {a : Act} {w : World} {p u : Tmp} (hr : fn.results = #[.cell p 32, .tmp u]) {b : Nat} {L : List Value} {t : TypeId} (hp : a.tmps.getD p undef = .pointer (some ⟨b, 0, none⟩)) {z : Value} (hz : a.tmps.getD u undef = z)
    (hv : VB w b t L) (hl2 : L.length = 2) (hdf : a.defers = []) (hR : R (.returned (.tuple #[.agg L.toArray, z])) w) : bodyPost Try.prog fn R .ret a w := by
  refine bodyPost_ret (v := .tuple #[.agg L.toArray, z]) ?_ hdf hR
  have hl := run_loadVar_row (P := Try.prog) w b t 32 L.toArray (0, 0) _ hv Try.underlying32 rfl (by rw [Try.szF]; simp [hl2])
  rw [results_cell_tmp hr, hp, hz]
  simp only [asAddr, Sem.run_pure, Result.andThen_ok, hl]

theorem rhex_k {k : Int} (hk : isKind k) (w : World) : Calls Try.prog 108 #[.string (pstr k)] w (RetSl w .u32 (digs B32 (kP k))) := by
  have hK := kok hk
  have h := rhex_any (pstr k) w _ hK.sz (by have := hK.n6; omega) hK.hx
  rwa [hK.vl] at h

set_option maxRecDepth 100000 in
theorem rof_1 (w : World) : Calls Try.prog 60 #[.int .i64 1] w (RetRF w (kP 1) 32) := by
  have Hx := hide (fun W => rhex_k (k := 1) (by unfold isKind; omega) W)
  generalize kP 1 = P at *
  go_enter Try.func60, Try.ntmps60
  go_wp2_with (first
    | ((with_reducible refine wpList_alloc (o := ⟨some 2, _, _, _, _, _⟩) ?_ 32 ?_ [.slice none 0 0, .int .i64 0] Try.zrF ?_); rfl; rfl; intro w1 b1 h1 hv1 h3 h4; have hn1 : New w w1 b1 := ⟨by rw [h1]; exact Nat.le_refl _, by rw [h4]; omega, h3⟩; clear h1 h3 h4)
    | (go_at_call 108; refine (Hx.out w1).mono ?_; rintro e w2 ⟨A2, c2, rfl, hc2, hr2, hb2⟩; replace hc2 := hide hc2; replace hr2 := hide hr2; replace hb2 := hide hb2)
    | ((with_reducible refine wpList_storeW (o := ⟨none, _, _, _, _, _⟩) ?_ 32 (.tmp 2) (.tmp 8) ?_ ?_ (hv1.next hb2.out) (vF A2 P c2 32) ?_ (szVF _ _ _ _) ?_ ?_ ?_); rfl; rfl; rfl; rfl; rfl; rfl; intro w3 hv3 ho3; replace ho3 := hide ho3))
  refine retFT rfl rfl rfl hv3 rfl rfl ⟨A2, c2, rfl, hc2.out, ?_, Only.below (below_next hn1.bl hb2.out) ho3.out hn1.lo⟩
  exact hr2.out.apart (hv1.next hb2.out) noU32 ho3.out

set_option maxRecDepth 100000 in
theorem rof_2 (w : World) : Calls Try.prog 60 #[.int .i64 2] w (RetRF w (kP 2) 32) := by
  have Hx := hide (fun W => rhex_k (k := 2) (by unfold isKind; omega) W)
  generalize kP 2 = P at *
  go_enter Try.func60, Try.ntmps60
  go_wp2_with (first
    | ((with_reducible refine wpList_alloc (o := ⟨some 2, _, _, _, _, _⟩) ?_ 32 ?_ [.slice none 0 0, .int .i64 0] Try.zrF ?_); rfl; rfl; intro w1 b1 h1 hv1 h3 h4; have hn1 : New w w1 b1 := ⟨by rw [h1]; exact Nat.le_refl _, by rw [h4]; omega, h3⟩; clear h1 h3 h4)
    | (go_at_call 108; refine (Hx.out w1).mono ?_; rintro e w2 ⟨A2, c2, rfl, hc2, hr2, hb2⟩; replace hc2 := hide hc2; replace hr2 := hide hr2; replace hb2 := hide hb2)
    | ((with_reducible refine wpList_storeW (o := ⟨none, _, _, _, _, _⟩) ?_ 32 (.tmp 2) (.tmp 12) ?_ ?_ (hv1.next hb2.out) (vF A2 P c2 32) ?_ (szVF _ _ _ _) ?_ ?_ ?_); rfl; rfl; rfl; rfl; rfl; rfl; intro w3 hv3 ho3; replace ho3 := hide ho3))
  refine retFT rfl rfl rfl hv3 rfl rfl ⟨A2, c2, rfl, hc2.out, ?_, Only.below (below_next hn1.bl hb2.out) ho3.out hn1.lo⟩
  exact hr2.out.apart (hv1.next hb2.out) noU32 ho3.out

set_option maxRecDepth 100000 in
theorem rof_3 (w : World) : Calls Try.prog 60 #[.int .i64 3] w (RetRF w (kP 3) 32) := by
  have Hx := hide (fun W => rhex_k (k := 3) (by unfold isKind; omega) W)
  generalize kP 3 = P at *
  go_enter Try.func60, Try.ntmps60
  go_wp2_with (first
    | ((with_reducible refine wpList_alloc (o := ⟨some 2, _, _, _, _, _⟩) ?_ 32 ?_ [.slice none 0 0, .int .i64 0] Try.zrF ?_); rfl; rfl; intro w1 b1 h1 hv1 h3 h4; have hn1 : New w w1 b1 := ⟨by rw [h1]; exact Nat.le_refl _, by rw [h4]; omega, h3⟩; clear h1 h3 h4)
    | (go_at_call 108; refine (Hx.out w1).mono ?_; rintro e w2 ⟨A2, c2, rfl, hc2, hr2, hb2⟩; replace hc2 := hide hc2; replace hr2 := hide hr2; replace hb2 := hide hb2)
    | ((with_reducible refine wpList_storeW (o := ⟨none, _, _, _, _, _⟩) ?_ 32 (.tmp 2) (.tmp 16) ?_ ?_ (hv1.next hb2.out) (vF A2 P c2 32) ?_ (szVF _ _ _ _) ?_ ?_ ?_); rfl; rfl; rfl; rfl; rfl; rfl; intro w3 hv3 ho3; replace ho3 := hide ho3))
  refine retFT rfl rfl rfl hv3 rfl rfl ⟨A2, c2, rfl, hc2.out, ?_, Only.below (below_next hn1.bl hb2.out) ho3.out hn1.lo⟩
  exact hr2.out.apart (hv1.next hb2.out) noU32 ho3.out

set_option maxRecDepth 100000 in
theorem rof_4 (w : World) : Calls Try.prog 60 #[.int .i64 4] w (RetRF w (kP 4) 32) := by
  have Hx := hide (fun W => rhex_k (k := 4) (by unfold isKind; omega) W)
  generalize kP 4 = P at *
  go_enter Try.func60, Try.ntmps60
  go_wp2_with (first
    | ((with_reducible refine wpList_alloc (o := ⟨some 2, _, _, _, _, _⟩) ?_ 32 ?_ [.slice none 0 0, .int .i64 0] Try.zrF ?_); rfl; rfl; intro w1 b1 h1 hv1 h3 h4; have hn1 : New w w1 b1 := ⟨by rw [h1]; exact Nat.le_refl _, by rw [h4]; omega, h3⟩; clear h1 h3 h4)
    | (go_at_call 108; refine (Hx.out w1).mono ?_; rintro e w2 ⟨A2, c2, rfl, hc2, hr2, hb2⟩; replace hc2 := hide hc2; replace hr2 := hide hr2; replace hb2 := hide hb2)
    | ((with_reducible refine wpList_storeW (o := ⟨none, _, _, _, _, _⟩) ?_ 32 (.tmp 2) (.tmp 20) ?_ ?_ (hv1.next hb2.out) (vF A2 P c2 32) ?_ (szVF _ _ _ _) ?_ ?_ ?_); rfl; rfl; rfl; rfl; rfl; rfl; intro w3 hv3 ho3; replace ho3 := hide ho3))
  refine retFT rfl rfl rfl hv3 rfl rfl ⟨A2, c2, rfl, hc2.out, ?_, Only.below (below_next hn1.bl hb2.out) ho3.out hn1.lo⟩
  exact hr2.out.apart (hv1.next hb2.out) noU32 ho3.out

set_option maxRecDepth 100000 in
theorem rof_5 (w : World) : Calls Try.prog 60 #[.int .i64 5] w (RetRF w (kP 5) 48) := by
  have Hx := hide (fun W => rhex_k (k := 5) (by unfold isKind; omega) W)
  generalize kP 5 = P at *
  go_enter Try.func60, Try.ntmps60
  go_wp2_with (first
    | ((with_reducible refine wpList_alloc (o := ⟨some 2, _, _, _, _, _⟩) ?_ 32 ?_ [.slice none 0 0, .int .i64 0] Try.zrF ?_); rfl; rfl; intro w1 b1 h1 hv1 h3 h4; have hn1 : New w w1 b1 := ⟨by rw [h1]; exact Nat.le_refl _, by rw [h4]; omega, h3⟩; clear h1 h3 h4)
    | (go_at_call 108; refine (Hx.out w1).mono ?_; rintro e w2 ⟨A2, c2, rfl, hc2, hr2, hb2⟩; replace hc2 := hide hc2; replace hr2 := hide hr2; replace hb2 := hide hb2)
    | ((with_reducible refine wpList_storeW (o := ⟨none, _, _, _, _, _⟩) ?_ 32 (.tmp 2) (.tmp 24) ?_ ?_ (hv1.next hb2.out) (vF A2 P c2 48) ?_ (szVF _ _ _ _) ?_ ?_ ?_); rfl; rfl; rfl; rfl; rfl; rfl; intro w3 hv3 ho3; replace ho3 := hide ho3))
  refine retFT rfl rfl rfl hv3 rfl rfl ⟨A2, c2, rfl, hc2.out, ?_, Only.below (below_next hn1.bl hb2.out) ho3.out hn1.lo⟩
  exact hr2.out.apart (hv1.next hb2.out) noU32 ho3.out

set_option maxRecDepth 100000 in
theorem rof_6 (w : World) : Calls Try.prog 60 #[.int .i64 6] w (RetRF w (kP 6) 32) := by
  have Hx := hide (fun W => rhex_k (k := 6) (by unfold isKind; omega) W)
  generalize kP 6 = P at *
  go_enter Try.func60, Try.ntmps60
  go_wp2_with (first
    | ((with_reducible refine wpList_alloc (o := ⟨some 2, _, _, _, _, _⟩) ?_ 32 ?_ [.slice none 0 0, .int .i64 0] Try.zrF ?_); rfl; rfl; intro w1 b1 h1 hv1 h3 h4; have hn1 : New w w1 b1 := ⟨by rw [h1]; exact Nat.le_refl _, by rw [h4]; omega, h3⟩; clear h1 h3 h4)
    | (go_at_call 108; refine (Hx.out w1).mono ?_; rintro e w2 ⟨A2, c2, rfl, hc2, hr2, hb2⟩; replace hc2 := hide hc2; replace hr2 := hide hr2; replace hb2 := hide hb2)
    | ((with_reducible refine wpList_storeW (o := ⟨none, _, _, _, _, _⟩) ?_ 32 (.tmp 2) (.tmp 28) ?_ ?_ (hv1.next hb2.out) (vF A2 P c2 32) ?_ (szVF _ _ _ _) ?_ ?_ ?_); rfl; rfl; rfl; rfl; rfl; rfl; intro w3 hv3 ho3; replace ho3 := hide ho3))
  refine retFT rfl rfl rfl hv3 rfl rfl ⟨A2, c2, rfl, hc2.out, ?_, Only.below (below_next hn1.bl hb2.out) ho3.out hn1.lo⟩
  exact hr2.out.apart (hv1.next hb2.out) noU32 ho3.out

theorem rof_c (k : Int) (w : World) (hk : isKind k) : Calls Try.prog 60 #[.int .i64 k] w (RetRF w (kP k) (ksz k)) := by
  rcases hk with rfl | rfl | rfl | rfl | rfl | rfl
  · exact rof_1 w
  · exact rof_2 w
  · exact rof_3 w
  · exact rof_4 w
  · exact rof_5 w
  · exact rof_6 w

set_option maxRecDepth 100000 in
theorem rof_none (k : Int) (w : World) (hk : ¬ isKind k) : Calls Try.prog 60 #[.int .i64 k] w fun e w' =>
    e = .returned (.tuple #[.agg ([.slice none 0 0, .int .i64 0] : List Value).toArray, .bool false]) ∧ Below w.heap.size w w' := by
  unfold isKind at hk
  have h1 : ¬ k = 1 := by omega
  have h2 : ¬ k = 2 := by omega
  have h3 : ¬ k = 3 := by omega
  have h4 : ¬ k = 4 := by omega
  have h5 : ¬ k = 5 := by omega
  have h6 : ¬ k = 6 := by omega
  go_enter Try.func60, Try.ntmps60
  go_wp2_with (first
    | ((with_reducible refine wpList_alloc (o := ⟨some 2, _, _, _, _, _⟩) ?_ 32 ?_ [.slice none 0 0, .int .i64 0] Try.zrF ?_); rfl; rfl; intro w1 b1 h1 hv1 h3 h4; have hn1 : New w w1 b1 := ⟨by rw [h1]; exact Nat.le_refl _, by rw [h4]; omega, h3⟩; clear h1 h3 h4)
    | ((with_reducible refine wpList_storeW (o := ⟨none, _, _, _, _, _⟩) ?_ 32 (.tmp 2) (.tmp 29) ?_ ?_ hv1 [.slice none 0 0, .int .i64 0] ?_ szV0 ?_ ?_ ?_); rfl; rfl; rfl; rfl; rfl; rfl; intro w3 hv3 ho3; replace ho3 := hide ho3))
  exact retFT rfl rfl rfl hv3 rfl rfl ⟨rfl, Only.below hn1.bl ho3.out hn1.lo⟩
end Go.Proofs.Ytincemkjdgbnnaa
