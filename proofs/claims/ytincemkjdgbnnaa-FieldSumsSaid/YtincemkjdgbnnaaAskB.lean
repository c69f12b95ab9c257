/- What is asked of the fields' statements, opened: the bytes. -/
import Derived.Test.YtincemkjdgbnnaaAsk
set_option linter.unusedVariables false
set_option linter.unusedSimpArgs false
namespace Go.Proofs.Ytincemkjdgbnnaa
open Go.RowKit Lm

set_option maxRecDepth 100000 in
/-- a slice of bytes, opened. -/
theorem bytes_open {H : Type} {enc : TypeId × Value → H} {W : World} {base n : Nat} {s : Value} {y : DataW H × List MemPlace} (hok : Cell.okWide Try.prog W .any base 25 s) (h : DataW.trod enc Try.prog W 0 (fun _ => true) true n 25 [s] = some y) :
    ∃ A l c, s = .slice A l.length c ∧ l.length ≤ c ∧ Rd W .u8 A l ∧ Ok 256 l := by
  rcases ChangeShapes.open_ints Try.underlying25 Try.underlying5 (by kernel_rfl) h with ⟨hcs, _⟩ | ⟨a, len, cap, zs, hcs, _, hlc, _, hlen, _, hcell, hwf⟩
  · injection hcs with hcs
    exact ⟨none, [], 0, hcs, Nat.le_refl _, Rd.nil _ _ _, fun x hx => by cases hx⟩
  · injection hcs with hcs
    subst hcs
    unfold Cell.okWide at hok
    rw [Try.underlying25] at hok
    unfold Cell.ok at hok
    rw [Try.underlying25] at hok
    obtain ⟨_, _, _, hspot, _⟩ := hok
    have hzl : zs.length = cap := by simpa using hlen
    have hwf' : ∀ i, i < zs.length → 0 ≤ zs.getD i 0 ∧ zs.getD i 0 < 256 := fun i hi => by
      have hm : zs.getD i 0 ∈ zs := by rw [List.getD_eq_getElem?_getD, List.getElem?_eq_getElem hi]; exact List.getElem_mem hi
      have := hwf _ hm
      have h2 : IntKind.u8.min ≤ zs.getD i 0 ∧ zs.getD i 0 ≤ IntKind.u8.max := by simpa [Lit.wf] using this
      have e1 : IntKind.u8.min = 0 := rfl
      have e2 : IntKind.u8.max = 255 := rfl
      omega
    have hl : ((zs.take len).map Int.toNat).length = len := by rw [List.length_map, List.length_take]; omega
    refine ⟨some a, (zs.take len).map Int.toNat, cap, by rw [hl], by omega, fun _ => ⟨a.block, a.off, ?_, fun i hi => ?_⟩, fun x hx => ?_⟩
    · obtain ⟨b, off, sp⟩ := a
      simp only at hspot
      rw [hspot]
    · rw [hl] at hi
      have h1 := hcell i (by omega)
      have e : a.add i = ⟨a.block, a.off + i, none⟩ := by
        obtain ⟨b, off, sp⟩ := a
        simp only at hspot
        subst hspot
        exact add_off b off i
      rw [e] at h1
      rw [h1]
      have h2 := hwf' i (by omega)
      have h3 : nth ((zs.take len).map Int.toNat) i = (zs.getD i 0).toNat := by
        rw [nth_of_lt (by rw [hl]; exact hi), List.getElem_map, List.getElem_take, List.getD_eq_getElem?_getD, List.getElem?_eq_getElem (by omega)]
        rfl
      rw [h3, Int.toNat_of_nonneg h2.1]
    · obtain ⟨u, hu, rfl⟩ := List.mem_map.1 hx
      have hu' := List.mem_of_mem_take hu
      obtain ⟨i, hi, rfl⟩ := List.getElem_of_mem hu'
      have h2 := hwf' i hi
      rw [List.getD_eq_getElem?_getD, List.getElem?_eq_getElem hi] at h2
      simp only [Option.getD_some] at h2
      omega

set_option maxRecDepth 100000 in
theorem ask_bytes {H : Type} {enc : TypeId × Value → H} {W : World} {base : Nat} {k : Int} {x y z : Nat} {s : Value} {d : DataW H} {p : List MemPlace} (hv : Value.okWide Try.prog W .any base 27 (.agg (askCells k x y z s).toArray))
    (h : DataW.Trod enc Try.prog W 0 (fun _ => true) true 27 (.agg (askCells k x y z s).toArray) d p) : ∃ A l c, s = .slice A l.length c ∧ l.length ≤ c ∧ Rd W .u8 A l ∧ Ok 256 l := by
  obtain ⟨fuel, hf⟩ := h
  obtain ⟨xs, n, _, _, hl, hlen, hg⟩ := DataW.trod_struct Try.underlying27 hf
  have h4 := hg 4 _ rfl
  have hx : ∃ q, xs[4]? = some q := ⟨xs[4]'(by rw [hlen]; decide), List.getElem?_eq_getElem _⟩
  obtain ⟨q, hq⟩ := hx
  rw [hq] at h4
  have e : (((Value.agg (askCells k x y z s).toArray).cells.toList).drop 19).take 1 = [s] := by simp [Value.cells, askCells, ve, nums, fix]
  unfold Value.okWide at hv
  rw [Try.underlying27] at hv
  obtain ⟨cs, hcs, hsz, ts, ht, _, hc⟩ := hv
  injection hcs with hcs
  subst hcs
  rw [Try.askTypes] at ht
  injection ht with ht
  subst ht
  obtain ⟨u, hu, hok⟩ := hc 19 s rfl
  injection hu with hu
  subst hu
  refine bytes_open (enc := enc) hok (n := n) (y := q) ?_
  rw [← e]
  exact h4
end Go.Proofs.Ytincemkjdgbnnaa
