/- Arguments by value, opened: the numbers in a struct's cells. -/
import Derived.Test.YtincemkjdgbnnaaArr
import Derived.ChangeSame
import Derived.Carry
set_option linter.unusedVariables false
set_option linter.unusedSimpArgs false
namespace Go.Proofs.Ytincemkjdgbnnaa
open Go.RowKit Lm

theorem cell_int {P : Program} {W : World} {r : Reach} {base : Nat} {t : TypeId} {k : IntKind} {v : Value} (ht : P.underlying t = some (.int k)) (h : Cell.okWide P W r base t v) : ∃ n : Int, v = .int k n ∧ k.has n := by
  unfold Cell.okWide at h
  rw [ht] at h
  unfold Cell.ok at h
  rw [ht] at h
  cases v <;> simp at h
  rename_i k' n
  obtain ⟨rfl, h⟩ := h
  exact ⟨n, rfl, h⟩

theorem cells_u64 : ∀ (l : List Value), (∀ v, v ∈ l → ∃ n : Nat, n < B64 ∧ v = .int .u64 (n : Int)) → ∃ L : List Nat, Ok B64 L ∧ L.length = l.length ∧ l = nums .u64 L
  | [], _ => ⟨[], fun _ h => (by cases h), rfl, rfl⟩
  | v :: l, h => by
    obtain ⟨n, hn, rfl⟩ := h v List.mem_cons_self
    obtain ⟨L, h1, h2, h3⟩ := cells_u64 l fun v hv => h v (List.mem_cons_of_mem _ hv)
    refine ⟨n :: L, fun x hx => ?_, by simp [h2], by rw [h3]; rfl⟩
    rcases List.mem_cons.1 hx with rfl | hx
    · exact hn
    · exact h1 _ hx

theorem open_ve (l : List Value) (hl : l.length = 6) (h : ∀ v, v ∈ l → ∃ n : Nat, n < B64 ∧ v = .int .u64 (n : Int)) : ∃ x, x < B64 ^ 6 ∧ l = ve x := by
  obtain ⟨L, h1, h2, h3⟩ := cells_u64 l h
  rw [hl] at h2
  have hlt := val_lt h1
  rw [h2] at hlt
  refine ⟨val B64 L, hlt, ?_⟩
  rw [h3]
  unfold ve
  congr 1
  exact val_inj h1 (fix_ok B64_pos _ _) (by rw [h2, fix_length]) (by rw [val_fix_of_lt hlt])

/-- six cells of a row. -/
theorem row_ve {P : Program} {W : World} {r : Reach} {base : Nat} {t u : TypeId} {cs : Array Value} (h : Row.okWide P W r base t cs) {ts : List TypeId} (hts : P.cellTypes P.depth t = some ts) (hu : P.underlying u = some (.int .u64)) (off : Nat)
    (hin : ∀ j, j < 6 → ts[(off + j) % ts.length]? = some u) (hsz : off + 6 ≤ cs.size) : ∃ x, x < B64 ^ 6 ∧ (cs.toList.drop off).take 6 = ve x := by
  obtain ⟨ts', h1, _, h3⟩ := h
  rw [hts] at h1
  injection h1 with h1
  subst h1
  refine open_ve _ (by simp; omega) fun v hv => ?_
  obtain ⟨j, hj⟩ := List.mem_iff_getElem?.1 hv
  have hj6 : j < 6 := by
    rcases Nat.lt_or_ge j 6 with h | h
    · exact h
    · rw [List.getElem?_take] at hj
      simp [show ¬ j < 6 by omega] at hj
  rw [List.getElem?_take_of_lt hj6, List.getElem?_drop, Array.getElem?_toList] at hj
  obtain ⟨u', hu', hok⟩ := h3 _ _ hj
  rw [hin j hj6] at hu'
  injection hu' with hu'
  subst hu'
  obtain ⟨n, rfl, hn⟩ := cell_int hu hok
  have hn' : 0 ≤ n ∧ n < 2 ^ 64 := by
    unfold IntKind.has at hn
    simp [IntKind.min, IntKind.max, IntKind.signed, IntKind.bits] at hn
    omega
  refine ⟨n.toNat, ?_, by rw [Int.toNat_of_nonneg hn'.1]⟩
  have : B64 = 2 ^ 64 := rfl
  omega

open Go.ChangeShapes Go.WideShapes in
/-- the end of a row whose arguments stay as they are: nothing that was there has turned. -/
theorem post_of_below {H : Type} {enc : TypeId × Value → H} {P : Program} {f : Func} {s : ChangeSpec} {apart fresh handsOn again : Bool} {W W' : World} {args : Array Value} {v : Value} {ds gs : List (DataW H)} {before pa pv : List MemPlace}
    (hW : DataW.Whole enc P f.params.toList s.vars apart W args.toList ds gs before)
    (hres : ∀ (b : Nat) (sp : Nat → Bool) (hd : Bool), DataW.TrodAll enc P W' b sp hd f.resultTypes.toList (v.resultList f.resultTypes.size) (s.fn H (ds ++ gs)).results [])
    (hargs : ∀ sp : Nat → Bool, (∀ p ∈ before, sp p.block = true) → DataW.TrodAll enc P W' 0 sp true f.params.toList args.toList (s.fn H (ds ++ gs)).args pa)
    (hvars : ∀ sp : Nat → Bool, (∀ p ∈ before, sp p.block = true) → DataW.TrodVars enc P W' sp s.vars (s.fn H (ds ++ gs)).vars pv)
    (hps : before = pa ++ pv) (hB : Below W.heap.size W W')
    (hok : ∀ (j : Nat) (t : TypeId) (r : Value), f.resultTypes[j]? = some t → (v.resultList f.resultTypes.size)[j]? = some r → Value.okWide P W' .any 0 t r) :
    s.post enc P f apart fresh handsOn again W args v W' := by
  have hlt : ∀ p ∈ before, p.block < W.heap.size := fun p hp => hW.lt p hp
  have hold : ∀ p ∈ before, (fun b => decide (b < W.heap.size)) p.block = true := fun p hp => by simpa using hlt p hp
  refine ⟨ds, gs, before, [], pa, pv, hW, hres _ _ _, hargs _ hold, hvars _ hold, World.keptBut_mono (fun p hp => ⟨hp, ?_⟩) (hB.frame (· ∈ before)), fun _ => ?_⟩
  · rw [hps, List.mem_append] at hp
    exact Or.inr hp
  · obtain ⟨_, _, _, _, _, hz, hn⟩ := hW
    refine ⟨hok, _, _, ([] ++ pa) ++ pv, ⟨[] ++ pa, pv, trodAll_append (hargs _ (fun _ _ => rfl)) (hres _ _ _), hvars _ (fun _ _ => rfl), rfl, ?_, ?_⟩, ?_⟩
    · intro b off hp
      have hm : MemPlace.cell b off ∈ before := by rw [hps]; simpa using hp
      rw [hB.frozen (p := ⟨b, off, none⟩) (hlt _ hm)]
      exact hz b off hm
    · intro ha
      have := hn ha
      rw [hps] at this
      simpa using this
    · intro p hp _
      rw [hps]
      simpa using hp
end Go.Proofs.Ytincemkjdgbnnaa
