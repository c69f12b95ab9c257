/- Words: a prime field's constants, and the block in which they lie. Walks: package mont, the making of a field. Words: arrays and structs by value, boxed, loaded, stored; each law over a world that stays a letter. -/
import Derived.Test.YtincemkjdgbnnaaDivP
import Derived.Deep.RegionLaw
import Derived.Deep.MidRow
set_option linter.unusedVariables false
set_option linter.unusedSimpArgs false
namespace Go.Proofs.Ytincemkjdgbnnaa
open Go.RowKit Lm

/-- a block of whatever cells. -/
def VB (w : World) (b : Nat) (t : TypeId) (L : List Value) : Prop := w.heap[b]? = some (.cells L.toArray t (0, 0))
def nums (k : IntKind) (l : List Nat) : List Value := l.map fun n : Nat => Value.int k (n : Int)
theorem nums_length (k : IntKind) (l : List Nat) : (nums k l).length = l.length := by simp [nums]

section
variable {w w' : World} {b : Nat} {t : TypeId} {L : List Value}
theorem VB.lt (h : VB w b t L) : b < w.heap.size := by
  rcases Nat.lt_or_ge b w.heap.size with hlt | hge
  · exact hlt
  · unfold VB at h; rw [Array.getElem?_eq_none hge] at h; cases h
theorem VB.cell (h : VB w b t L) (i : Nat) : w.cell? ⟨b, i, none⟩ = L[i]? := by rw [cell_of_row w b i _ t (0, 0) h]; simp
theorem VB.frozen (h : VB w b t L) (i : Nat) : w.frozen? ⟨b, i, none⟩ = false := by unfold VB at h; simp [World.frozen?, h]
theorem VB.new (w : World) (t : TypeId) (L : List Value) : VB (w.alloc (.cells L.toArray t)) w.heap.size t L := heap_alloc_new w _
theorem VB.set_ (h : VB w b t L) (i : Nat) (v : Value) : VB (w.setCell ⟨b, i, none⟩ v) b t (L.set i v) := by
  unfold VB at h ⊢
  simp [World.setCell, Array.getElem?_modify, h]
theorem VB.below {B : Nat} (h : VB w b t L) (hb : Below B w w') (hg : b < B) : VB w' b t L := (hb.block b hg).trans h
theorem VB.next (h : VB w b t L) (hb : Below w.heap.size w w') : VB w' b t L := h.below hb h.lt
theorem VB.drew (h : VB w b t L) : VB w.drew b t L := h
theorem VB.drewN (h : VB w b t L) (n : Nat) : VB (w.drewN n) b t L := h
theorem VB.alloc (h : VB w b t L) (o : Obj) : VB (w.alloc o) b t L := (Below.heap_alloc w o b h.lt).trans h
theorem VB.far (h : VB w b t L) {p : Addr} (hp : b ≠ p.block) (u : Value) : VB (w.setCell p u) b t L := (Below.heap_setCell w p u b hp).trans h
theorem Only.vb {b' : Nat} (h : Only w w' b') (hr : VB w b t L) (hne : b ≠ b') : VB w' b t L := (h.block b hr.lt (fun e => hne (by injection e))).trans hr
theorem VB.of_blk {k : IntKind} {l : List Nat} (h : Blk w b t k l) : VB w b t (nums k l) := h
theorem VB.to_blk {k : IntKind} {l : List Nat} (h : VB w b t (nums k l)) : Blk w b t k l := h
end

/-- the builtin copy into a block of whatever cells. -/
theorem copy_v {P : Program} {w : World} {dT sT ty elem : TypeId} (hu : P.underlying dT = some (.slice elem)) (hs : (P.info? elem).map (·.size) = some 1) {k : IntKind} {t : TypeId} {b off dLen dCap sCap : Nat}
    {A : Option Addr} {L : List Value} {l : List Nat} (hb : VB w b t L) (hr : Rd w k A l) (hfit : off + dLen ≤ L.length) :
    ∃ w', (Builtin.copy_ #[dT, sT] ty #[.slice (some ⟨b, off, none⟩) dLen dCap, .slice A l.length sCap]).run P w = .ok (goInt ((min l.length dLen : Nat) : Int)) w' ∧
      VB w' b t (L.take off ++ (nums k (l.take dLen) ++ L.drop (off + min l.length dLen))) ∧ Only w w' b := by
  rcases Nat.eq_zero_or_pos (min l.length dLen) with h0 | h0
  · refine ⟨w, ?_, ?_, Only.refl _ _⟩
    · rw [run_copy_none (P := P) w dT sT ty elem _ _ _ _ _ _ hu hs h0, h0]; rfl
    · have : l.take dLen = [] := by
        rcases Nat.eq_zero_or_pos dLen with h | h
        · rw [h]; rfl
        · have : l.length = 0 := by omega
          rw [List.length_eq_zero_iff.1 this]; simp
      rw [this, h0, Nat.add_zero]
      simp only [nums, List.map_nil, List.nil_append, List.take_append_drop]
      exact hb
  · obtain ⟨b', off', rfl, hrow⟩ := hr (by omega)
    have hlen : (nums k (l.take dLen)).length = min l.length dLen := by rw [nums_length, List.length_take]; omega
    have hrun := run_copy_row (P := P) w dT sT ty elem b off dLen dCap ⟨b', off', none⟩ l.length sCap _ t (nums k (l.take dLen)) hu hs hb hlen
      (fun j v hj => by
        unfold nums at hj
        rw [List.getElem?_map] at hj
        cases hq : (l.take dLen)[j]? with
        | none => rw [hq] at hj; cases hj
        | some x =>
          rw [hq] at hj
          obtain ⟨h1, h2⟩ := List.getElem?_eq_some_iff.1 hq
          rw [List.length_take] at h1
          rw [add_off, hrow j (by omega), ← hj]
          have : nth l j = x := by rw [nth_of_lt (by omega), ← h2, List.getElem_take]
          rw [this]; rfl)
      (by rw [hlen]; simp; omega) (fun v hv => by obtain ⟨x, _, rfl⟩ := List.mem_map.1 hv; rfl)
    rw [hlen] at hrun
    refine ⟨_, hrun, ?_, ⟨rfl, rfl, rfl, by simp [World.setRow], fun i hi hne => setRow_other w b i _ (fun e => hne (by rw [e]))⟩⟩
    unfold VB
    rw [setRow_heap w b _ _ t (0, 0) hb]
    simp

theorem step_copy {P : Program} {ops : Array Oper} {o : Oper} {a : Act} {w : World} {K : Act → World → Prop} {Q : Exit → Act → World → Prop} {E : Prop} (hgd : o.guard = none) (d s : Operand) (dT sT : TypeId)
    (ho : o.op = .call { callee := .builtin .copy, args := #[d, s], argTypes := #[dT, sT] }) {vd vs v' : Value} {w' : World} (hd : a.eval d = vd) (hs : a.eval s = vs)
    (hrun : (Builtin.copy_ #[dT, sT] o.type #[vd, vs]).run P w = .ok v' w') (h : K (a.put o.dst v') w') : if Region.wanted o (yielded ops a.tmps) = true then Oper.wp P o a w K Q else E := by
  have hw : Region.wanted o (yielded ops a.tmps) = true := by simp [Region.wanted, hgd]
  rw [if_pos hw]
  unfold Oper.wp execOp
  simp only [ho, resolve, invoke, builtin, Sem.run_bind, Sem.run_pure, Result.andThen_ok, List.map_toArray, List.map_cons, List.map_nil, hd, hs, hrun]
  exact h
theorem wpList_copy {P : Program} {ops : Array Oper} {rest : List Oper} {o : Oper} {a : Act} {w : World} {Q : Exit → Act → World → Prop} (hgd : o.guard = none) (d s : Operand) (dT sT : TypeId)
    (ho : o.op = .call { callee := .builtin .copy, args := #[d, s], argTypes := #[dT, sT] }) {vd vs v' : Value} {w' : World} (hd : a.eval d = vd) (hs : a.eval s = vs)
    (hrun : (Builtin.copy_ #[dT, sT] o.type #[vd, vs]).run P w = .ok v' w') (h : wpList P ops Q rest (a.put o.dst v') w') : wpList P ops Q (o :: rest) a w := by
  refine wpList_plain hgd fun K hK => ?_
  unfold Oper.wp execOp
  simp only [ho, resolve, invoke, builtin, Sem.run_bind, Sem.run_pure, Result.andThen_ok, List.map_toArray, List.map_cons, List.map_nil, hd, hs, hrun]
  exact hK _ _ h

/-- a slice's address below block B at which l stands. -/
def RdB (w : World) (k : IntKind) (A : Option Addr) (l : List Nat) (B : Nat) : Prop := 0 < l.length → ∃ b off, A = some ⟨b, off, none⟩ ∧ b < B ∧ RowN w k b off l
theorem Rd.toB {w : World} {k : IntKind} {A : Option Addr} {l : List Nat} (h : Rd w k A l) : RdB w k A l w.heap.size := fun hl =>
  let ⟨b, off, e, hr⟩ := h hl; ⟨b, off, e, hr.lt hl, hr⟩
theorem RdB.rd {w : World} {k : IntKind} {A : Option Addr} {l : List Nat} {B : Nat} (h : RdB w k A l B) : Rd w k A l := fun hl =>
  let ⟨b, off, e, _, hr⟩ := h hl; ⟨b, off, e, hr⟩
theorem RdB.only {w w' : World} {k : IntKind} {A : Option Addr} {l : List Nat} {B b : Nat} (h : RdB w k A l B) (ho : Only w w' b) (hB : B ≤ b) : RdB w' k A l B := fun hl =>
  let ⟨b', off, e, hlt, hr⟩ := h hl; ⟨b', off, e, hlt, ho.row hr (by omega)⟩
theorem RdB.next {w w' : World} {k : IntKind} {A : Option Addr} {l : List Nat} {B : Nat} (h : RdB w k A l B) (hb : Below w.heap.size w w') : RdB w' k A l B := fun hl =>
  let ⟨b', off, e, hlt, hr⟩ := h hl; ⟨b', off, e, hlt, hr.below hb⟩
theorem RdB.drew {w : World} {k : IntKind} {A : Option Addr} {l : List Nat} {B : Nat} (h : RdB w k A l B) : RdB w.drew k A l B := h
theorem RdB.set_ {w : World} {k : IntKind} {A : Option Addr} {l : List Nat} {B b : Nat} (h : RdB w k A l B) (hB : B ≤ b) (i : Nat) (u : Value) : RdB (w.setCell ⟨b, i, none⟩ u) k A l B :=
  h.only ((Only.refl w b).set_ i u) hB

/-! ## a prime field -/
/-- less the inverse of p modulo 2^64, as the code reckons it: six times x (2 - p x). -/
def nw (p : Nat) : Nat → Nat
  | 0 => p
  | k + 1 => nw p k * ((2 + B64 - p * nw p k % B64) % B64) % B64
def ninv (P : Nat) : Nat := (B64 - nw (P % B64) 6) % B64

/-- the cells of a mont.Field: the prime, its limbs, less its inverse, 1, and what turns a number into an element. -/
def fcells (P n : Nat) : List Value :=
  nums .u64 (fix B64 6 P) ++ (.int .i64 (n : Int) :: .int .u64 (ninv P : Int) :: (nums .u64 (fix B64 6 (B64 ^ n % P)) ++ nums .u64 (fix B64 6 (B64 ^ (2 * n) % P))))

end Go.Proofs.Ytincemkjdgbnnaa

set_option linter.unusedVariables false
set_option linter.unusedSimpArgs false
namespace Go.Proofs.Ytincemkjdgbnnaa
open Go.RowKit Lm

theorem nw_lt (p k : Nat) (hp : p < B64) : nw p k < B64 := by
  cases k with
  | zero => exact hp
  | succ k => exact Nat.mod_lt _ B64_pos
theorem nw_step (p x : Nat) : IntKind.u64.wrap ((x : Int) * IntKind.u64.wrap (2 - IntKind.u64.wrap ((p : Int) * (x : Int)))) = ((x * ((2 + B64 - p * x % B64) % B64) % B64 : Nat) : Int) := by
  have h1 : IntKind.u64.wrap (2 - IntKind.u64.wrap ((p : Int) * (x : Int))) = (((2 + B64 - p * x % B64) % B64 : Nat) : Int) := by
    rw [← Int.natCast_mul]
    generalize p * x = m
    simp only [IntKind.wrap_u64, B64_eq]
    omega
  rw [h1, ← Int.natCast_mul, IntKind.wrap_u64, B64_eq]
  omega
theorem neg_u64 (x : Nat) (h : x < B64) : IntKind.u64.wrap (-(x : Int)) = (((B64 - x) % B64 : Nat) : Int) := by
  rw [IntKind.wrap_u64, B64_eq]; rw [B64_eq] at h; omega

/-- a call hands back a pointer to a field's block. -/
def RetF (w : World) (P n : Nat) (e : Ending) (w' : World) : Prop :=
  ∃ b, e = .returned (.pointer (some ⟨b, 0, none⟩)) ∧ VB w' b 155 (fcells P n) ∧ w.heap.size ≤ b ∧ Below w.heap.size w w'

theorem fill6 {pre R : List Value} {l : List Nat} (hok : Ok B64 l) (hl : l.length ≤ 6) {off : Nat} (ho : off = pre.length) :
    (pre ++ (nums .u64 (List.replicate 6 0) ++ R)).take off ++ (nums .u64 (l.take 6) ++ (pre ++ (nums .u64 (List.replicate 6 0) ++ R)).drop (off + min l.length 6)) = pre ++ (nums .u64 (fix B64 6 (val B64 l)) ++ R) := by
  subst ho
  have e1 : (pre ++ (nums .u64 (List.replicate 6 0) ++ R)).take pre.length = pre := by simp
  have e2 : l.take 6 = l := List.take_of_length_le hl
  rw [e1, e2, Nat.min_eq_left hl, ← List.drop_drop, List.drop_left, List.drop_append_of_le_length (by rw [nums_length, List.length_replicate]; exact hl), ← List.append_assoc (nums _ _)]
  congr 2
  have e3 : (nums .u64 (List.replicate 6 0)).drop l.length = nums .u64 (List.replicate (6 - l.length) 0) := by
    unfold nums; rw [← List.map_drop, List.drop_replicate]
  rw [e3, ← pad_fix hok hl]
  simp [nums]

theorem copy6 {w : World} {b : Nat} {pre R : List Value} {A : Option Addr} {c v : Nat} {off : Nat} (hv : VB w b 155 (pre ++ (nums .u64 (List.replicate 6 0) ++ R))) (ho : off = pre.length) (hr : Rd w .u64 A (digs B64 v)) (h6 : v < B64 ^ 6) :
    ∃ w', (Builtin.copy_ #[104, 104] 3 #[.slice (some ⟨b, off, none⟩) 6 6, .slice A (digs B64 v).length c]).run Try.prog w = .ok (goInt ((digs B64 v).length : Int)) w' ∧
      VB w' b 155 (pre ++ (nums .u64 (fix B64 6 v) ++ R)) ∧ Only w w' b := by
  have hl := digs_length_le B64_ge h6
  obtain ⟨w', h1, h2, h3⟩ := copy_v (P := Try.prog) (dT := 104) (sT := 104) (ty := 3) (off := off) (dLen := 6) (dCap := 6) (sCap := c) Try.underlying104 (by kernel_rfl) hv hr (by simp [nums]; omega)
  rw [fill6 (digs_ok B64_ge v) hl ho, val_digs B64_ge] at h2
  rw [Nat.min_eq_left hl] at h1
  exact ⟨w', h1, h2, h3⟩

/-- one place is 1, the others 0. -/
def unit1 (m i : Nat) : List Nat := (List.replicate m 0).set i 1
theorem unit1_length (m i : Nat) : (unit1 m i).length = m := by simp [unit1]
theorem unit1_ok (m i : Nat) : Ok B64 (unit1 m i) := Ok.set (Ok.replicate B64_pos _) (by decide)
theorem val_unit1 {m i : Nat} (h : i < m) : val B64 (unit1 m i) = B64 ^ i := by
  have := val_set (B := B64) (List.replicate m 0) i 1 (by simpa using h)
  rw [val_replicate] at this
  simpa [unit1] using this
theorem unit1_take {m i k : Nat} (h : i < k) (hk : k ≤ m) : (unit1 m i).take k = unit1 k i := by
  unfold unit1
  rw [List.take_set, List.take_replicate, Nat.min_eq_left hk]
theorem unit1_move {m i j : Nat} : ((unit1 m i).set i 0).set j 1 = unit1 m j := by
  unfold unit1
  rw [List.set_set]
  congr 1
  apply List.ext_getElem
  · simp
  · intro k h1 h2
    simp only [List.getElem_set, List.getElem_replicate]
    split <;> rfl

theorem nth_unit1_self {m i : Nat} (h : i < m) : nth (unit1 m i) i = 1 := nth_set_self (by simpa using h)
theorem nth_unit1_ne {m i j : Nat} (h : i ≠ j) (hj : j < m) : nth (unit1 m i) j = 0 := by
  unfold unit1; rw [nth_set_ne h, nth_of_lt (by simpa using hj)]; simp

theorem u0 : Value.int .u64 0 = Value.int .u64 ((0 : Nat) : Int) := rfl

set_option maxRecDepth 100000 in
set_option maxHeartbeats 3200000 in
theorem new_any (A : Option Addr) (c : Nat) (l : List Nat) (P n : Nat) (w : World) (hr : Rd w .u64 A l) (hc : l.length ≤ c) (hlim : l.length ≤ lim) (hok : Ok B64 l)
    (hP : val B64 l = P) (hn : (digs B64 P).length = n) (hn1 : 0 < n) (hn6 : n ≤ 6) :
    Calls Try.prog 106 #[.slice A l.length c] w (RetF w P n) := by
  go_enter Try.func106, Try.ntmps106
  go_wp2_with fail
  refine (trim_any A c l w hr hc hlim hok).mono ?_
  rintro e w1 ⟨A1, c1, rfl, hc1, hr1, hb1⟩
  rw [hP, hn] at hc1 ⊢
  rw [hP] at hr1
  have okD := digs_ok B64_ge P
  have hvD := val_digs B64_ge P
  have hP6 : P < B64 ^ 6 := Nat.lt_of_lt_of_le (digs_lt B64_ge P) (by rw [hn]; exact Nat.pow_le_pow_right B64_pos hn6)
  have hvb := VB.new w1 155 (nums .u64 (List.replicate 6 0) ++ (.int .i64 (n : Int) :: .int .u64 0 :: (nums .u64 (List.replicate 6 0) ++ nums .u64 (List.replicate 6 0))))
  obtain ⟨w2, hrun, hv2, ho2⟩ := copy_v (P := Try.prog) (dT := 104) (sT := 104) (ty := 3) (off := 0) (dLen := 6) (dCap := 6) (sCap := c1) Try.underlying104 (by kernel_rfl) hvb
    (hr1.below (below_alloc (Below.refl _ _) _)) (by simp [nums])
  have hf := fill6 (pre := []) (R := .int .i64 (n : Int) :: .int .u64 0 :: (nums .u64 (List.replicate 6 0) ++ nums .u64 (List.replicate 6 0))) okD (by rw [hn]; exact hn6) (off := 0) rfl
  simp only [List.nil_append] at hf
  rw [hf, hvD] at hv2
  have Hrun := hide hrun
  rw [hn] at Hrun
  have Hr1 := hide hr1
  obtain ⟨bm, hbm⟩ : ∃ b, b = w1.heap.size := ⟨_, rfl⟩
  rw [← hbm] at hv2 ho2 Hrun
  have hb2 := hide (Only.below (below_alloc hb1 (.cells (nums .u64 (List.replicate 6 0) ++ (.int .i64 (n : Int) :: .int .u64 0 :: (nums .u64 (List.replicate 6 0) ++ nums .u64 (List.replicate 6 0)))).toArray 155)) ho2 (by rw [hbm]; exact hb1.size))
  have hgm : w.heap.size ≤ bm := by rw [hbm]; exact hb1.size
  have hr2 : RdB w2 .u64 A1 (digs B64 P) bm := ((hr1.toB).next (below_alloc (Below.refl _ _) _)).only ho2 (by rw [hbm]; exact Nat.le_refl _) |> fun h => by rw [hbm]; exact h
  have hbm' : w1.heap.size = bm := hbm.symm
  have Hr2 := hide hr2
  clear hr1 hrun hvb hf hr2 Hr1 hbm
  have hc0 := hv2.cell 0
  have hc6 := hv2.cell 6
  have hc7 := hv2.cell 7
  have hfz := hv2.frozen
  have e0 : (nums .u64 (fix B64 6 P) ++ (.int .i64 (n : Int) :: .int .u64 0 :: (nums .u64 (List.replicate 6 0) ++ nums .u64 (List.replicate 6 0))))[0]? = some (.int .u64 ((P % B64 : Nat) : Int)) := rfl
  have e6 : (nums .u64 (fix B64 6 P) ++ (.int .i64 (n : Int) :: .int .u64 0 :: (nums .u64 (List.replicate 6 0) ++ nums .u64 (List.replicate 6 0))))[6]? = some (.int .i64 (n : Int)) := rfl
  have e7 : (nums .u64 (fix B64 6 P) ++ (.int .i64 (n : Int) :: .int .u64 0 :: (nums .u64 (List.replicate 6 0) ++ nums .u64 (List.replicate 6 0))))[7]? = some (.int .u64 0) := rfl
  rw [e0] at hc0
  rw [e6] at hc6
  rw [e7] at hc7
  have hf7 := hfz 7
  clear e0 e6 e7 hfz
  have hp0 : P % B64 < B64 := Nat.mod_lt _ B64_pos
  have Hv2 := hide hv2
  have Ho2 := hide ho2
  have Hok := hide okD
  have HvD := hide hvD
  have Hn := hide hn
  clear hv2 ho2 okD hvD hn
  generalize hpp : P % B64 = p0 at *
  have hpp := hide hpp
  go_upto_region 3 with fail
  go_upto_region 4 with ((with_reducible refine wpList_copy (o := ⟨some 17, _, _, _, _, _⟩) ?_ (.tmp 15) (.tmp 16) _ _ ?_ ?_ ?_ Hrun.out ?_); rfl; rfl; rfl; rfl)
  clear Hrun
  go_upto_block 0 with fail
  go_cut [4] (fun s wx => s = .int .u64 (nw p0 6 : Int) ∧ wx = w2)
  case first =>
    go_wp2_with fail
    go_loop [4, 23] (fun s k => ∃ i : Nat, i ≤ 6 ∧ k = .int .i64 (i : Int) ∧ s = .int .u64 (nw p0 i : Int)) (fun _ k => 6 - (intOf k).toNat)
    case atStart => exact ⟨0, by omega, rfl, rfl⟩
    case round =>
      obtain ⟨i, hi, rfl, rfl⟩ := hrel
      by_cases hlt : i < 6
      · have hE := hide (nw_step p0 (nw p0 i))
        have hx := hide (show nw p0 (i + 1) = nw p0 i * ((2 + B64 - p0 * nw p0 i % B64) % B64) % B64 from rfl)
        generalize nw p0 i = x at *
        go_wp2_with fail
        exact ⟨⟨i + 1, by omega, by simp, val_int (by rw [hE.out, hx.out])⟩, by simp [intOf]; omega⟩
      · obtain rfl : i = 6 := by omega
        go_wp2_with fail
        go_meet
        exact ⟨rfl, rfl⟩
  obtain ⟨rfl, rfl⟩ := hcut
  have hx6 := nw_lt p0 6 hp0
  have hneg := neg_u64 (nw p0 6) hx6
  have hinv := hide (show (B64 - nw p0 6) % B64 = ninv P by unfold ninv; rw [hpp.out])
  rw [hinv.out] at hneg
  generalize nw p0 6 = x at *
  have Hv3 := hide (Hv2.out.set_ 7 (.int .u64 (ninv P : Int)))
  have Hb3 := hide (hb2.out.setCell (p := ⟨bm, 7, none⟩) hgm (.int .u64 (ninv P : Int)))
  have Hr3 := hide (Hr2.out.set_ (Nat.le_refl _) 7 (.int .u64 (ninv P : Int)))
  go_upto_region 10 with fail
  clear hc0 hc6 hc7 hf7 hneg
  have hw5 : ∃ w5, w5 = wc.setCell ⟨bm, 7, none⟩ (.int .u64 (ninv P : Int)) := ⟨_, rfl⟩
  obtain ⟨w5, hw5⟩ := hw5
  rw [← hw5] at Hv3 Hb3 Hr3 ⊢
  clear hw5 Hv2 hb2 Hr2 Ho2
  have hl5 : (nums .u64 (fix B64 6 P) ++ (.int .i64 (n : Int) :: .int .u64 0 :: (nums .u64 (List.replicate 6 0) ++ nums .u64 (List.replicate 6 0)))).set 7 (.int .u64 (ninv P : Int)) =
      nums .u64 (fix B64 6 P) ++ (.int .i64 (n : Int) :: .int .u64 (ninv P : Int) :: (nums .u64 (List.replicate 6 0) ++ nums .u64 (List.replicate 6 0))) := rfl
  rw [hl5] at Hv3
  clear hl5
  have c6 := Hv3.out.cell 6
  rw [show (nums .u64 (fix B64 6 P) ++ (.int .i64 (n : Int) :: .int .u64 (ninv P : Int) :: (nums .u64 (List.replicate 6 0) ++ nums .u64 (List.replicate 6 0))))[6]? = some (.int .i64 (n : Int)) from rfl] at c6
  have hmk := mk_u64 (2 * (n : Int) + 1) (2 * n + 1) (by omega) (by unfold lim; omega)
  obtain ⟨bp, hbp⟩ : ∃ b, b = w5.heap.size := ⟨_, rfl⟩
  have hbp' := hbp.symm
  have hlt5 := Hv3.out.lt
  have hmp : bm ≠ bp := by omega
  have hgp : w.heap.size ≤ bp := by have := Hb3.out.size; omega
  have hbmp : bm ≤ bp := by omega
  have c6a := (Hv3.out.alloc (nblk .u64 22 (List.replicate (2 * n + 1) 0))).cell 6
  rw [show (nums .u64 (fix B64 6 P) ++ (.int .i64 (n : Int) :: .int .u64 (ninv P : Int) :: (nums .u64 (List.replicate 6 0) ++ nums .u64 (List.replicate 6 0))))[6]? = some (.int .i64 (n : Int)) from rfl] at c6a
  have hbk : Blk (w5.alloc (nblk .u64 22 (List.replicate (2 * n + 1) 0))) bp 22 .u64 (List.replicate (2 * n + 1) 0) := by rw [hbp]; exact Blk.new _ _ _ _
  have hcp := hbk.cell (i := n) (by simp; omega)
  have hfp := hbk.frozen n
  have hnz : nth (List.replicate (2 * n + 1) 0) n = 0 := by rw [nth_of_lt (by simp; omega)]; simp
  rw [hnz] at hcp
  have Hp6 := hide (hbk.set_ n (E := 1) (z := 1) rfl)
  have Hv6 := hide ((Hv3.out.alloc (nblk .u64 22 (List.replicate (2 * n + 1) 0))).far (p := ⟨bp, n, none⟩) hmp (.int .u64 1))
  have Hb6 := hide ((below_alloc Hb3.out (nblk .u64 22 (List.replicate (2 * n + 1) 0))).setCell (p := ⟨bp, n, none⟩) hgp (.int .u64 1))
  have Hr6 := hide ((Hr3.out.next (below_alloc (Below.refl _ _) (nblk .u64 22 (List.replicate (2 * n + 1) 0)))).set_ hbmp n (.int .u64 1))
  clear hbk hbp hnz Hb3 Hr3
  go_upto_region 12 with fail
  clear c6 c6a hcp hfp hmk hbp' hlt5
  obtain ⟨w6, hw6⟩ : ∃ w6, w6 = (w5.alloc (nblk .u64 22 (List.replicate (2 * n + 1) 0))).setCell ⟨bp, n, none⟩ (.int .u64 1) := ⟨_, rfl⟩
  rw [← hw6] at Hp6 Hv6 Hb6 Hr6 ⊢
  clear hw6
  change Hid (Blk w6 bp 22 .u64 (unit1 (2 * n + 1) n)) at Hp6
  have c6 := Hv6.out.cell 6
  rw [show (nums .u64 (fix B64 6 P) ++ (.int .i64 (n : Int) :: .int .u64 (ninv P : Int) :: (nums .u64 (List.replicate 6 0) ++ nums .u64 (List.replicate 6 0))))[6]? = some (.int .i64 (n : Int)) from rfl] at c6
  have hD0 : P ≠ 0 := by
    rintro rfl
    rw [digs_zero] at Hn
    have := Hn.out
    simp at this; omega
  have hrest : Hid (Calls Try.prog 137 #[.slice (some ⟨bp, 0, none⟩) (n + 1) (2 * n + 1), .slice A1 n c1] w6.drew (RetSl w6.drew .u64 (digs B64 (B64 ^ n % P)))) := by
    have h := rest_any (some ⟨bp, 0, none⟩) A1 (2 * n + 1) c1 (unit1 (n + 1) n) (digs B64 P) w6.drew
      (fun _ => ⟨_, _, rfl, by rw [← unit1_take (m := 2 * n + 1) (by omega) (by omega)]; exact Hp6.out.row0.take _⟩) (by rw [unit1_length]; omega) (by rw [unit1_length]; unfold lim; omega) (unit1_ok _ _)
      Hr6.out.rd (by rw [Hn.out]; exact hc1) (by rw [Hn.out]; unfold lim; omega) Hok.out (by rw [HvD.out]; exact hD0)
    rw [unit1_length, Hn.out, HvD.out, val_unit1 (by omega)] at h
    exact h
  have hm6 : B64 ^ n % P < B64 ^ 6 := Nat.lt_trans (Nat.mod_lt _ (by omega)) hP6
  have iw : IntKind.i64.wrap ((n : Int) + 1) = (n : Int) + 1 := wrap_in _ (by omega) (by omega)
  have i1 : (n : Int) + 1 ≤ 2 * (n : Int) + 1 := by omega
  have i2 : ((n : Int) + 1).toNat = n + 1 := by omega
  have i3 : (0 : Int) ≤ (n : Int) + 1 := by omega
  go_region_law (first
    | ((with_reducible refine step_copy (o := ⟨some 67, _, _, _, _, _⟩) ?_ (.tmp 57) (.tmp 66) _ _ ?_ ?_ ?_ Hrun8.out ?_); rfl; rfl; rfl; rfl)
    | ((try go_simp); go_at_call 137; refine hrest.out.mono ?_; rintro e w7 ⟨A7, c7, rfl, hc7, hr7, hb7⟩
       have Hv7 := Hv6.out.drew.next hb7
       obtain ⟨w8, hrun8, hv8, ho8⟩ := copy6 (c := c7) (off := 8) (pre := nums .u64 (fix B64 6 P) ++ [.int .i64 (n : Int), .int .u64 (ninv P : Int)]) (R := nums .u64 (List.replicate 6 0)) (by rw [List.append_assoc]; exact Hv7) (by simp [nums, fix_length]) hr7 hm6
       have Hrun8 := hide hrun8
       clear hrun8))
  have Hv8 := hide hv8
  rw [List.append_assoc] at Hv8
  have Hp8 := hide (ho8.blk (Hp6.out.drew.next hb7) (Ne.symm hmp))
  have Hr8 := hide ((Hr6.out.drew.next hb7).only ho8 (Nat.le_refl _))
  have hb67 := below_next (below_drew Hb6.out) hb7
  have Hb8 := hide (Only.below hb67 ho8 hgm)
  clear hv8 ho8 hb7 hr7 c6 Hrun8 hrest Hv7 Hp6 Hr6 Hb6 Hv6 hb67 iw i1 i2 i3
  have c6 := Hv8.out.cell 6
  rw [show (nums .u64 (fix B64 6 P) ++ ([.int .i64 (n : Int), .int .u64 (ninv P : Int)] ++ (nums .u64 (fix B64 6 (B64 ^ n % P)) ++ nums .u64 (List.replicate 6 0))))[6]? = some (.int .i64 (n : Int)) from rfl] at c6
  have cn := Hp8.out.cell (i := n) (by rw [unit1_length]; omega)
  have c2n := Hp8.out.cell (i := 2 * n) (by rw [unit1_length]; omega)
  rw [nth_unit1_self (by omega)] at cn
  rw [nth_unit1_ne (by omega) (by omega)] at c2n
  have fn := Hp8.out.frozen n
  have f2n := Hp8.out.frozen (2 * n)
  have iw := wrap_in (2 * (n : Int)) (by omega) (by omega)
  have i1 : (n : Int) < 2 * (n : Int) + 1 := by omega
  have i2 : 2 * (n : Int) < 2 * (n : Int) + 1 := by omega
  have i3 : (2 * (n : Int)).toNat = 2 * n := by omega
  have i4 : (0 : Int) ≤ 2 * (n : Int) := by omega
  go_wp2_with fail
  go_region
  have Hp9 := hide ((Hp8.out.set_ n (E := 0) (z := 0) rfl).set_ (2 * n) (E := 1) (z := 1) rfl).drew
  rw [unit1_move] at Hp9
  have Hv9 := hide ((Hv8.out.far (p := ⟨bp, n, none⟩) hmp (.int .u64 0)).far (p := ⟨bp, 2 * n, none⟩) hmp (.int .u64 1)).drew
  have Hr9 := hide ((Hr8.out.set_ hbmp n (.int .u64 0)).set_ hbmp (2 * n) (.int .u64 1)).drew
  have Hb9 := hide (below_drew ((Hb8.out.setCell (p := ⟨bp, n, none⟩) hgp (.int .u64 0)).setCell (p := ⟨bp, 2 * n, none⟩) hgp (.int .u64 1)))
  clear c6 cn c2n fn f2n iw i1 i2 i3 i4 Hp8 Hr8 Hb8
  obtain ⟨w9, hw9⟩ : ∃ w9, w9 = ((w8.setCell ⟨bp, n, none⟩ (.int .u64 0)).setCell ⟨bp, 2 * n, none⟩ (.int .u64 1)).drew := ⟨_, rfl⟩
  rw [← hw9] at Hp9 Hv9 Hr9 Hb9 ⊢
  clear hw9 Hv8
  have hrest : Hid (Calls Try.prog 137 #[.slice (some ⟨bp, 0, none⟩) (2 * n + 1) (2 * n + 1), .slice A1 n c1] w9.drew (RetSl w9.drew .u64 (digs B64 (B64 ^ (2 * n) % P)))) := by
    have h := rest_any (some ⟨bp, 0, none⟩) A1 (2 * n + 1) c1 (unit1 (2 * n + 1) (2 * n)) (digs B64 P) w9.drew
      (fun _ => ⟨_, _, rfl, Hp9.out.row0⟩) (by rw [unit1_length]; exact Nat.le_refl _) (by rw [unit1_length]; unfold lim; omega) (unit1_ok _ _)
      Hr9.out.rd (by rw [Hn.out]; exact hc1) (by rw [Hn.out]; unfold lim; omega) Hok.out (by rw [HvD.out]; exact hD0)
    rw [unit1_length, Hn.out, HvD.out, val_unit1 (by omega)] at h
    exact h
  have hm6' : B64 ^ (2 * n) % P < B64 ^ 6 := Nat.lt_trans (Nat.mod_lt _ (by omega)) hP6
  go_wp2_with fail
  go_region_law (first
    | ((with_reducible refine step_copy (o := ⟨some 88, _, _, _, _, _⟩) ?_ (.tmp 84) (.tmp 87) _ _ ?_ ?_ ?_ Hrun11.out ?_); rfl; rfl; rfl; rfl)
    | ((try go_simp); go_at_call 137; refine hrest.out.mono ?_; rintro e w10 ⟨A10, c10, rfl, hc10, hr10, hb10⟩
       have Hv10 := Hv9.out.drew.next hb10
       obtain ⟨w11, hrun11, hv11, ho11⟩ := copy6 (c := c10) (off := 14) (R := []) (pre := nums .u64 (fix B64 6 P) ++ ([.int .i64 (n : Int), .int .u64 (ninv P : Int)] ++ nums .u64 (fix B64 6 (B64 ^ n % P)))) (by
         rw [List.append_nil, List.append_assoc, List.append_assoc]; exact Hv10) (by simp [nums, fix_length]) hr10 hm6'
       have Hrun11 := hide hrun11
       clear hrun11))
  have Hv11 : Hid (VB w11 bm 155 (fcells P n)) := by
    rw [List.append_nil, List.append_assoc, List.append_assoc] at hv11
    exact hv11
  have hb9 := hide (Only.below (below_next (below_drew Hb9.out) hb10) ho11 hgm)
  clear hv11 ho11 hb10 hr10 Hrun11 hrest Hv10 Hb9 Hp9 Hr9 Hv9
  go_wp2_with fail
  go_ret
  exact ⟨bm, rfl, Hv11.out, hgm, hb9.out⟩
end Go.Proofs.Ytincemkjdgbnnaa

set_option linter.unusedVariables false
set_option linter.unusedSimpArgs false
namespace Go.Proofs.Ytincemkjdgbnnaa
open Go.RowKit Lm

section
variable {P : Program} {ops : Array Oper} {rest : List Oper} {o : Oper} {a : Act} {w : World} {Q : Exit → Act → World → Prop}

/-- 'box': a value of cells gets a block of its own. -/
theorem wpList_box (hgd : o.guard = none) (ty : TypeId) (x : Operand) (ho : o.op = .box ty x) (cs : List Value) (hx : a.eval x = .agg cs.toArray)
    (h : ∀ w' b, b = w.heap.size → VB w' b ty cs → Below w.heap.size w w' → w'.heap.size = b + 1 → wpList P ops Q rest (a.put o.dst (.pointer (some ⟨b, 0, none⟩))) w') : wpList P ops Q (o :: rest) a w := by
  refine wpList_plain hgd fun K hK => ?_
  unfold Oper.wp execOp
  simp only [ho, hx, Instr.box]
  exact hK _ _ (h (w.alloc (.cells cs.toArray ty)) w.heap.size rfl (VB.new w ty cs) (below_alloc (Below.refl _ _) _) (by simp))

/-- 'alloc' of a type of cells. -/
theorem wpList_alloc (hgd : o.guard = none) (ty : TypeId) (ho : o.op = .alloc ty) (cs : List Value) (hz : (P.info? ty).map (·.zero) = some (some (.agg cs.toArray)))
    (h : ∀ w' b, b = w.heap.size → VB w' b ty cs → Below w.heap.size w w' → w'.heap.size = b + 1 → wpList P ops Q rest (a.put o.dst (.pointer (some ⟨b, 0, none⟩))) w') : wpList P ops Q (o :: rest) a w := by
  refine wpList_plain hgd fun K hK => ?_
  have hz' : ∃ i, P.info? ty = some i ∧ i.zero = some (.agg cs.toArray) := by
    cases hq : P.info? ty with
    | none => rw [hq] at hz; cases hz
    | some i => rw [hq] at hz; exact ⟨i, rfl, by simpa using hz⟩
  obtain ⟨i, hi, hz2⟩ := hz'
  have hrun : ∀ old, (Instr.alloc ty true old).run P w = .ok (.pointer (some ⟨w.heap.size, 0, none⟩)) (w.alloc (.cells cs.toArray ty)) := fun old => by
    simp [Instr.alloc, zeroValue, typeInfo, hi, hz2, newVar, newRow, Value.cells]
  unfold Oper.wp execOp
  simp only [ho, Sem.run_bind, hrun, Result.andThen_ok, Sem.run_pure]
  exact hK _ _ (h (w.alloc (.cells cs.toArray ty)) w.heap.size rfl (VB.new w ty cs) (below_alloc (Below.refl _ _) _) (by simp))

/-- a variable of cells in the midst of a block is read. -/
theorem wpList_loadA (hgd : o.guard = none) (ty : TypeId) (x : Operand) (ho : o.op = .load ty x) {b off : Nat} (hx : a.eval x = .pointer (some ⟨b, off, none⟩)) {t : TypeId} {L : List Value} (hv : VB w b t L)
    {d : TypeDesc} (hu : P.underlying ty = some d) (hd : d.isRow = true) {n : Nat} (hi : (P.info? ty).map (·.size) = some n) (hn : off + n ≤ L.length)
    (h : wpList P ops Q rest (a.put o.dst (.agg ((L.drop off).take n).toArray)) w) : wpList P ops Q (o :: rest) a w := by
  refine wpList_plain hgd fun K hK => ?_
  have hrun := run_loadVar_mid (P := P) w b off ty ((L.drop off).take n) d (fun j v hj => by
    rw [hv.cell]
    rw [List.getElem?_take] at hj
    split at hj
    · rwa [List.getElem?_drop] at hj
    · cases hj) hu hd (by rw [hi]; simp; omega)
  unfold Oper.wp execOp
  simp only [ho, hx, Instr.loadAt, Instr.sureAddr, Sem.run_bind, Sem.run_pure, Result.andThen_ok, hrun]
  exact hK _ _ h

/-- the whole of a block is read. -/
theorem wpList_loadW (hgd : o.guard = none) (ty : TypeId) (x : Operand) (ho : o.op = .load ty x) {b : Nat} (hx : a.eval x = .pointer (some ⟨b, 0, none⟩)) {t : TypeId} {L : List Value} (hv : VB w b t L)
    {d : TypeDesc} (hu : P.underlying ty = some d) (hd : d.isRow = true) (hi : (P.info? ty).map (·.size) = some L.length)
    (h : wpList P ops Q rest (a.put o.dst (.agg L.toArray)) w) : wpList P ops Q (o :: rest) a w :=
  wpList_loadA hgd ty x ho hx hv hu hd hi (by omega) (by rw [List.drop_zero, List.take_length]; exact h)

/-- a variable of cells in the midst of a block is written. -/
theorem storeA_run {b off : Nat} {t : TypeId} {L : List Value} (hv : VB w b t L) {ty : TypeId} (cs : List Value) (hi : (P.info? ty).map (·.size) = some cs.length) (h1 : cs.all (·.oneCell') = true) (hn : off + cs.length ≤ L.length) :
    ∃ w', (Instr.storeAt ty (.pointer (some ⟨b, off, none⟩)) (.agg cs.toArray)).run P w = .ok () w' ∧ VB w' b t (L.take off ++ (cs ++ L.drop (off + cs.length))) ∧ Only w w' b := by
  refine ⟨w.setRow b (L.take off ++ cs ++ L.drop (off + cs.length)).toArray, ?_, ?_, ⟨rfl, rfl, rfl, by simp [World.setRow], fun i hi hne => setRow_other w b i _ (fun e => hne (by rw [e]))⟩⟩
  · have hst := run_storeCells_at P b off t cs 0 L.toArray w hv (by simpa using hn) (fun v hv => (List.all_eq_true.1 h1) v hv)
    simp only [Nat.add_zero] at hst
    cases hq : P.info? ty with
    | none => simp [hq] at hi
    | some i =>
      have hs : cs.length = i.size := by simp [hq] at hi; omega
      simp [Instr.storeAt, Instr.sureAddr, storeVar, sizeOf, typeInfo, hq, Value.cells, hs]
      rw [hs] at hst
      simpa using hst
  · unfold VB
    rw [setRow_heap w b _ _ t (0, 0) hv]
    simp
theorem wpList_storeA (hgd : o.guard = none) (ty : TypeId) (x y : Operand) (ho : o.op = .store ty x y) {b off : Nat} (hx : a.eval x = .pointer (some ⟨b, off, none⟩)) {t : TypeId} {L : List Value} (hv : VB w b t L)
    (cs : List Value) (hy : a.eval y = .agg cs.toArray) (hi : (P.info? ty).map (·.size) = some cs.length) (h1 : cs.all (·.oneCell') = true) (hn : off + cs.length ≤ L.length)
    (h : ∀ w', VB w' b t (L.take off ++ (cs ++ L.drop (off + cs.length))) → Only w w' b → wpList P ops Q rest (a.put o.dst undef) w') : wpList P ops Q (o :: rest) a w := by
  refine wpList_plain hgd fun K hK => ?_
  obtain ⟨w', hrun, hv', ho'⟩ := storeA_run (P := P) hv cs hi h1 hn
  unfold Oper.wp execOp
  simp only [ho, hx, hy, Sem.run_bind, hrun, Result.andThen_ok, Sem.run_pure]
  exact hK _ _ (h w' hv' ho')

/-- the whole of a block is written. -/
theorem wpList_storeW (hgd : o.guard = none) (ty : TypeId) (x y : Operand) (ho : o.op = .store ty x y) {b : Nat} (hx : a.eval x = .pointer (some ⟨b, 0, none⟩)) {t : TypeId} {L : List Value} (hv : VB w b t L)
    (cs : List Value) (hy : a.eval y = .agg cs.toArray) (hi : (P.info? ty).map (·.size) = some cs.length) (h1 : cs.all (·.oneCell') = true) (hn : cs.length = L.length)
    (h : ∀ w', VB w' b t cs → Only w w' b → wpList P ops Q rest (a.put o.dst undef) w') : wpList P ops Q (o :: rest) a w :=
  wpList_storeA hgd ty x y ho hx hv cs hy hi h1 (by omega) fun w' hv' ho' => h w' (by
    rw [hn, Nat.zero_add, List.take_zero, List.nil_append, List.drop_length, List.append_nil] at hv'
    exact hv') ho'
end

/-- the end of a function whose result lies in a block of cells. -/
theorem bodyPost_cell {P : Program} {fn : Func} {R : Ending → World → Prop} {a : Act} {w : World} {p : Tmp} {ty : TypeId} (hr : fn.results = #[.cell p ty]) {b : Nat} (hp : a.tmps.getD p undef = .pointer (some ⟨b, 0, none⟩))
    {t : TypeId} {L : List Value} (hv : VB w b t L) {d : TypeDesc} (hu : P.underlying ty = some d) (hd : (match d with | .struct _ | .array _ _ => true | _ => false) = true) (hi : (P.info? ty).map (·.size) = some L.length)
    (hdf : a.defers = []) (hR : R (.returned (.agg L.toArray)) w) : bodyPost P fn R .ret a w :=
  bodyPost_ret (results_cell_row hr a.tmps w b t L.toArray (0, 0) d hp hv hu hd (by simpa using hi)) hdf hR

/-- an element: six limbs. -/
def ve (x : Nat) : List Value := nums .u64 (fix B64 6 x)
def vE (x : Nat) : Value := .agg (ve x).toArray
theorem ve_length (x : Nat) : (ve x).length = 6 := by simp [ve, nums, fix_length]
theorem ve_one (x : Nat) : (ve x).all (·.oneCell') = true := rfl
end Go.Proofs.Ytincemkjdgbnnaa
