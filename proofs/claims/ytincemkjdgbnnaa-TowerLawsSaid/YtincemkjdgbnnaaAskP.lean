/- Arguments by value, opened: the numbers in a struct's cells. What is asked of the fields' statements, opened: any value of that type is a kind, three numbers below 2^384, and a list of bytes. What is asked of the fields' statements, opened: the bytes. -/
import Derived.Test.YtincemkjdgbnnaaFldP
import Derived.ChangeSame
import Derived.Carry
import Derived.Test.YtincemkjdgbnnaaLawD
import Derived.ProofKit
set_option linter.unusedVariables false
set_option linter.unusedSimpArgs false
namespace Go.Proofs.Ytincemkjdgbnnaa
open Go.RowKit Lm

theorem cell_int {P : Program} {W : World} {r : Reach} {base : Nat} {t : TypeId} {k : IntKind} {v : Value} (ht : P.underlying t = some (.int k)) (h : Cell.okWide P W r base t v) : ∃ n : Int, v = .int k n ∧ k.has n := by
  unfold Cell.okWide at h
  rw [ht] at h
  unfold Cell.ok at h
  rw [ht] at h
  cases v <;> simp at h
  rename_i k' n
  obtain ⟨rfl, h⟩ := h
  exact ⟨n, rfl, h⟩

theorem cells_u64 : ∀ (l : List Value), (∀ v, v ∈ l → ∃ n : Nat, n < B64 ∧ v = .int .u64 (n : Int)) → ∃ L : List Nat, Ok B64 L ∧ L.length = l.length ∧ l = nums .u64 L
  | [], _ => ⟨[], fun _ h => (by cases h), rfl, rfl⟩
  | v :: l, h => by
    obtain ⟨n, hn, rfl⟩ := h v List.mem_cons_self
    obtain ⟨L, h1, h2, h3⟩ := cells_u64 l fun v hv => h v (List.mem_cons_of_mem _ hv)
    refine ⟨n :: L, fun x hx => ?_, by simp [h2], by rw [h3]; rfl⟩
    rcases List.mem_cons.1 hx with rfl | hx
    · exact hn
    · exact h1 _ hx

theorem open_ve (l : List Value) (hl : l.length = 6) (h : ∀ v, v ∈ l → ∃ n : Nat, n < B64 ∧ v = .int .u64 (n : Int)) : ∃ x, x < B64 ^ 6 ∧ l = ve x := by
  obtain ⟨L, h1, h2, h3⟩ := cells_u64 l h
  rw [hl] at h2
  have hlt := val_lt h1
  rw [h2] at hlt
  refine ⟨val B64 L, hlt, ?_⟩
  rw [h3]
  unfold ve
  congr 1
  exact val_inj h1 (fix_ok B64_pos _ _) (by rw [h2, fix_length]) (by rw [val_fix_of_lt hlt])

/-- six cells of a row. -/
theorem row_ve {P : Program} {W : World} {r : Reach} {base : Nat} {t u : TypeId} {cs : Array Value} (h : Row.okWide P W r base t cs) {ts : List TypeId} (hts : P.cellTypes P.depth t = some ts) (hu : P.underlying u = some (.int .u64)) (off : Nat)
    (hin : ∀ j, j < 6 → ts[(off + j) % ts.length]? = some u) (hsz : off + 6 ≤ cs.size) : ∃ x, x < B64 ^ 6 ∧ (cs.toList.drop off).take 6 = ve x := by
  obtain ⟨ts', h1, _, h3⟩ := h
  rw [hts] at h1
  injection h1 with h1
  subst h1
  refine open_ve _ (by simp; omega) fun v hv => ?_
  obtain ⟨j, hj⟩ := List.mem_iff_getElem?.1 hv
  have hj6 : j < 6 := by
    rcases Nat.lt_or_ge j 6 with h | h
    · exact h
    · rw [List.getElem?_take] at hj
      simp [show ¬ j < 6 by omega] at hj
  rw [List.getElem?_take_of_lt hj6, List.getElem?_drop, Array.getElem?_toList] at hj
  obtain ⟨u', hu', hok⟩ := h3 _ _ hj
  rw [hin j hj6] at hu'
  injection hu' with hu'
  subst hu'
  obtain ⟨n, rfl, hn⟩ := cell_int hu hok
  have hn' : 0 ≤ n ∧ n < 2 ^ 64 := by
    unfold IntKind.has at hn
    simp [IntKind.min, IntKind.max, IntKind.signed, IntKind.bits] at hn
    omega
  refine ⟨n.toNat, ?_, by rw [Int.toNat_of_nonneg hn'.1]⟩
  have : B64 = 2 ^ 64 := rfl
  omega

open Go.ChangeShapes Go.WideShapes in
/-- the end of a row whose arguments stay as they are: nothing that was there has turned. -/
theorem post_of_below {H : Type} {enc : TypeId × Value → H} {P : Program} {f : Func} {s : ChangeSpec} {apart fresh handsOn again : Bool} {W W' : World} {args : Array Value} {v : Value} {ds gs : List (DataW H)} {before pa pv : List MemPlace}
    (hW : DataW.Whole enc P f.params.toList s.vars apart W args.toList ds gs before)
    (hres : ∀ (b : Nat) (sp : Nat → Bool) (hd : Bool), DataW.TrodAll enc P W' b sp hd f.resultTypes.toList (v.resultList f.resultTypes.size) (s.fn H (ds ++ gs)).results [])
    (hargs : ∀ sp : Nat → Bool, (∀ p ∈ before, sp p.block = true) → DataW.TrodAll enc P W' 0 sp true f.params.toList args.toList (s.fn H (ds ++ gs)).args pa)
    (hvars : ∀ sp : Nat → Bool, (∀ p ∈ before, sp p.block = true) → DataW.TrodVars enc P W' sp s.vars (s.fn H (ds ++ gs)).vars pv)
    (hps : before = pa ++ pv) (hB : Below W.heap.size W W')
    (hok : ∀ (j : Nat) (t : TypeId) (r : Value), f.resultTypes[j]? = some t → (v.resultList f.resultTypes.size)[j]? = some r → Value.okWide P W' .any 0 t r) :
    s.post enc P f apart fresh handsOn again W args v W' := by
  have hlt : ∀ p ∈ before, p.block < W.heap.size := fun p hp => hW.lt p hp
  have hold : ∀ p ∈ before, (fun b => decide (b < W.heap.size)) p.block = true := fun p hp => by simpa using hlt p hp
  refine ⟨ds, gs, before, [], pa, pv, hW, hres _ _ _, hargs _ hold, hvars _ hold, World.keptBut_mono (fun p hp => ⟨hp, ?_⟩) (hB.frame (· ∈ before)), fun _ => ?_⟩
  · rw [hps, List.mem_append] at hp
    exact Or.inr hp
  · obtain ⟨_, _, _, _, _, hz, hn⟩ := hW
    refine ⟨hok, _, _, ([] ++ pa) ++ pv, ⟨[] ++ pa, pv, trodAll_append (hargs _ (fun _ _ => rfl)) (hres _ _ _), hvars _ (fun _ _ => rfl), rfl, ?_, ?_⟩, ?_⟩
    · intro b off hp
      have hm : MemPlace.cell b off ∈ before := by rw [hps]; simpa using hp
      rw [hB.frozen (p := ⟨b, off, none⟩) (hlt _ hm)]
      exact hz b off hm
    · intro ha
      have := hn ha
      rw [hps] at this
      simpa using this
    · intro p hp _
      rw [hps]
      simpa using hp
end Go.Proofs.Ytincemkjdgbnnaa

set_option linter.unusedVariables false
set_option linter.unusedSimpArgs false
namespace Go.Proofs.Ytincemkjdgbnnaa
open Go.RowKit Lm

theorem Try.ownK : ownKnob Try.prog.godebug = none := by kernel_rfl
theorem Try.laidOut : laidOutB Try.prog = true := by kernel_rfl
theorem Try.askTypes : Try.prog.cellTypes Try.prog.depth 27 = some [3, 22, 22, 22, 22, 22, 22, 22, 22, 22, 22, 22, 22, 22, 22, 22, 22, 22, 22, 25] := by kernel_rfl
theorem Try.askCellsOf : Try.prog.cellsOf 27 = 20 := by kernel_rfl

theorem split20 {L : List Value} (h : L.length = 20) : ∃ v s, L = v :: ((L.drop 1).take 6 ++ ((L.drop 7).take 6 ++ ((L.drop 13).take 6 ++ [s]))) ∧ L[0]? = some v ∧ L[19]? = some s := by
  obtain ⟨v, r, rfl⟩ : ∃ v r, L = v :: r := by cases L with
    | nil => cases h
    | cons v r => exact ⟨v, r, rfl⟩
  have e1 : r = r.take 6 ++ r.drop 6 := (List.take_append_drop 6 r).symm
  have e2 : r.drop 6 = (r.drop 6).take 6 ++ r.drop 12 := by
    conv => lhs; rw [← List.take_append_drop 6 (r.drop 6), List.drop_drop]
  have e3 : r.drop 12 = (r.drop 12).take 6 ++ r.drop 18 := by
    conv => lhs; rw [← List.take_append_drop 6 (r.drop 12), List.drop_drop]
  have h18 : (r.drop 18).length = 1 := by simp at h ⊢; omega
  obtain ⟨s, hs⟩ := List.length_eq_one_iff.1 h18
  refine ⟨v, s, ?_, rfl, ?_⟩
  · congr 1
    show r = r.take 6 ++ ((r.drop 6).take 6 ++ ((r.drop 12).take 6 ++ [s]))
    rw [← hs, ← e3, ← e2, ← e1]
  · have : (r.drop 18)[0]? = some s := by rw [hs]; rfl
    rw [List.getElem?_drop] at this
    exact this

set_option maxRecDepth 100000 in
theorem ask_open {W : World} {base : Nat} {v : Value} (h : Value.okWide Try.prog W .any base 27 v) :
    ∃ k x y z s, v = .agg (askCells k x y z s).toArray ∧ x < B64 ^ 6 ∧ y < B64 ^ 6 ∧ z < B64 ^ 6 := by
  unfold Value.okWide at h
  rw [Try.underlying27] at h
  obtain ⟨cs, rfl, hsz, hrow⟩ := h
  rw [Try.askCellsOf] at hsz
  obtain ⟨x, hx, ex⟩ := row_ve hrow Try.askTypes Try.underlying22 1 (by decide) (by omega)
  obtain ⟨y, hy, ey⟩ := row_ve hrow Try.askTypes Try.underlying22 7 (by decide) (by omega)
  obtain ⟨z, hz, ez⟩ := row_ve hrow Try.askTypes Try.underlying22 13 (by decide) (by omega)
  obtain ⟨v, s, e, h0, h19⟩ := split20 (L := cs.toList) (by simpa using hsz)
  obtain ⟨ts, ht, _, hc⟩ := hrow
  rw [Try.askTypes] at ht
  injection ht with ht
  subst ht
  obtain ⟨u, hu, hok⟩ := hc 0 v (by simpa using h0)
  injection hu with hu
  subst hu
  obtain ⟨k, rfl, _⟩ := cell_int Try.underlying3 hok
  rw [ex, ey, ez] at e
  exact ⟨k, x, y, z, s, by rw [show askCells k x y z s = cs.toList from e.symm], hx, hy, hz⟩
end Go.Proofs.Ytincemkjdgbnnaa

set_option linter.unusedVariables false
set_option linter.unusedSimpArgs false
namespace Go.Proofs.Ytincemkjdgbnnaa
open Go.RowKit Lm

set_option maxRecDepth 100000 in
/-- a slice of bytes, opened. -/
theorem bytes_open {H : Type} {enc : TypeId × Value → H} {W : World} {base n : Nat} {s : Value} {y : DataW H × List MemPlace} (hok : Cell.okWide Try.prog W .any base 25 s) (h : DataW.trod enc Try.prog W 0 (fun _ => true) true n 25 [s] = some y) :
    ∃ A l c, s = .slice A l.length c ∧ l.length ≤ c ∧ Rd W .u8 A l ∧ Ok 256 l := by
  rcases ChangeShapes.open_ints Try.underlying25 Try.underlying5 (by kernel_rfl) h with ⟨hcs, _⟩ | ⟨a, len, cap, zs, hcs, _, hlc, _, hlen, _, hcell, hwf⟩
  · injection hcs with hcs
    exact ⟨none, [], 0, hcs, Nat.le_refl _, Rd.nil _ _ _, fun x hx => by cases hx⟩
  · injection hcs with hcs
    subst hcs
    unfold Cell.okWide at hok
    rw [Try.underlying25] at hok
    unfold Cell.ok at hok
    rw [Try.underlying25] at hok
    obtain ⟨_, _, _, hspot, _⟩ := hok
    have hzl : zs.length = cap := by simpa using hlen
    have hwf' : ∀ i, i < zs.length → 0 ≤ zs.getD i 0 ∧ zs.getD i 0 < 256 := fun i hi => by
      have hm : zs.getD i 0 ∈ zs := by rw [List.getD_eq_getElem?_getD, List.getElem?_eq_getElem hi]; exact List.getElem_mem hi
      have := hwf _ hm
      have h2 : IntKind.u8.min ≤ zs.getD i 0 ∧ zs.getD i 0 ≤ IntKind.u8.max := by simpa [Lit.wf] using this
      have e1 : IntKind.u8.min = 0 := rfl
      have e2 : IntKind.u8.max = 255 := rfl
      omega
    have hl : ((zs.take len).map Int.toNat).length = len := by rw [List.length_map, List.length_take]; omega
    refine ⟨some a, (zs.take len).map Int.toNat, cap, by rw [hl], by omega, fun _ => ⟨a.block, a.off, ?_, fun i hi => ?_⟩, fun x hx => ?_⟩
    · obtain ⟨b, off, sp⟩ := a
      simp only at hspot
      rw [hspot]
    · rw [hl] at hi
      have h1 := hcell i (by omega)
      have e : a.add i = ⟨a.block, a.off + i, none⟩ := by
        obtain ⟨b, off, sp⟩ := a
        simp only at hspot
        subst hspot
        exact add_off b off i
      rw [e] at h1
      rw [h1]
      have h2 := hwf' i (by omega)
      have h3 : nth ((zs.take len).map Int.toNat) i = (zs.getD i 0).toNat := by
        rw [nth_of_lt (by rw [hl]; exact hi), List.getElem_map, List.getElem_take, List.getD_eq_getElem?_getD, List.getElem?_eq_getElem (by omega)]
        rfl
      rw [h3, Int.toNat_of_nonneg h2.1]
    · obtain ⟨u, hu, rfl⟩ := List.mem_map.1 hx
      have hu' := List.mem_of_mem_take hu
      obtain ⟨i, hi, rfl⟩ := List.getElem_of_mem hu'
      have h2 := hwf' i hi
      rw [List.getD_eq_getElem?_getD, List.getElem?_eq_getElem hi] at h2
      simp only [Option.getD_some] at h2
      omega

set_option maxRecDepth 100000 in
theorem ask_bytes {H : Type} {enc : TypeId × Value → H} {W : World} {base : Nat} {k : Int} {x y z : Nat} {s : Value} {d : DataW H} {p : List MemPlace} (hv : Value.okWide Try.prog W .any base 27 (.agg (askCells k x y z s).toArray))
    (h : DataW.Trod enc Try.prog W 0 (fun _ => true) true 27 (.agg (askCells k x y z s).toArray) d p) : ∃ A l c, s = .slice A l.length c ∧ l.length ≤ c ∧ Rd W .u8 A l ∧ Ok 256 l := by
  obtain ⟨fuel, hf⟩ := h
  obtain ⟨xs, n, _, _, hl, hlen, hg⟩ := DataW.trod_struct Try.underlying27 hf
  have h4 := hg 4 _ rfl
  have hx : ∃ q, xs[4]? = some q := ⟨xs[4]'(by rw [hlen]; decide), List.getElem?_eq_getElem _⟩
  obtain ⟨q, hq⟩ := hx
  rw [hq] at h4
  have e : (((Value.agg (askCells k x y z s).toArray).cells.toList).drop 19).take 1 = [s] := by simp [Value.cells, askCells, ve, nums, fix]
  unfold Value.okWide at hv
  rw [Try.underlying27] at hv
  obtain ⟨cs, hcs, hsz, ts, ht, _, hc⟩ := hv
  injection hcs with hcs
  subst hcs
  rw [Try.askTypes] at ht
  injection ht with ht
  subst ht
  obtain ⟨u, hu, hok⟩ := hc 19 s rfl
  injection hu with hu
  subst hu
  refine bytes_open (enc := enc) hok (n := n) (y := q) ?_
  rw [← e]
  exact h4
end Go.Proofs.Ytincemkjdgbnnaa
