/- Walks: package field: Inv, Exp; elements compared. -/
import Derived.Test.YtincemkjdgbnnaaFieB
import Derived.Laws.StructEq
import Derived.Laws.ResultCell
set_option linter.unusedVariables false
set_option linter.unusedSimpArgs false
namespace Go.Proofs.Ytincemkjdgbnnaa
open Go.RowKit Lm

section
variable (w : World)
theorem eqArr (ty : TypeId) (hu : Try.prog.underlying ty = some (.array 6 22)) (a0 a1 a2 a3 a4 a5 b0 b1 b2 b3 b4 b5 : Int) :
    (Op.equalIn 10000 ty (.agg #[.int .u64 a0, .int .u64 a1, .int .u64 a2, .int .u64 a3, .int .u64 a4, .int .u64 a5]) (.agg #[.int .u64 b0, .int .u64 b1, .int .u64 b2, .int .u64 b3, .int .u64 b4, .int .u64 b5])).run Try.prog w =
      .ok (decide (a0 = b0 ∧ a1 = b1 ∧ a2 = b2 ∧ a3 = b3 ∧ a4 = b4 ∧ a5 = b5)) w := by
  have u3 := Try.underlying22
  have a3' := Try.isAgg22
  have z3 := Try.sizeOf22
  rw [show (10000 : Nat) = 9999 + 1 from rfl, Op.equalIn]
  simp only [Sem.run_bind, run_underlying hu, Result.andThen_ok]
  simp only [Std.Legacy.Range.forIn_eq_forIn_range', Std.Legacy.Range.size, Nat.sub_zero, Nat.add_sub_cancel, Nat.div_one, List.range'_succ, List.range'_zero, List.forIn_cons, List.forIn_nil]
  go_simp
  by_cases h0 : a0 = b0 <;> by_cases h1 : a1 = b1 <;> by_cases h2 : a2 = b2 <;> by_cases h3 : a3 = b3 <;> by_cases h4 : a4 = b4 <;> by_cases h5 : a5 = b5 <;> simp [h0, h1, h2, h3, h4, h5]
theorem fix6_list (x : Nat) : ∃ a b c d e f : Nat, fix B64 6 x = [a, b, c, d, e, f] := ⟨_, _, _, _, _, _, rfl⟩
/-- are two lists of six digits the same? -/
def eqv (x y : Nat) : Bool := decide (x % B64 ^ 6 = y % B64 ^ 6)
theorem eqv_lt {x y : Nat} (hx : x < B64 ^ 6) (hy : y < B64 ^ 6) : eqv x y = decide (x = y) := by unfold eqv; rw [Nat.mod_eq_of_lt hx, Nat.mod_eq_of_lt hy]
theorem fix_inj6 {x y : Nat} : fix B64 6 x = fix B64 6 y ↔ x % B64 ^ 6 = y % B64 ^ 6 := by
  constructor
  · intro h; have := congrArg (val B64) h; rwa [val_fix, val_fix] at this
  · intro h; exact val_inj (fix_ok B64_pos _ _) (fix_ok B64_pos _ _) (by rw [fix_length, fix_length]) (by rw [val_fix, val_fix, h])
theorem eqVE (ty : TypeId) (hu : Try.prog.underlying ty = some (.array 6 22)) (x y : Nat) : (Op.equalIn 10000 ty (vE x) (vE y)).run Try.prog w = .ok (eqv x y) w := by
  obtain ⟨a0, a1, a2, a3, a4, a5, ha⟩ := fix6_list x
  obtain ⟨b0, b1, b2, b3, b4, b5, hb⟩ := fix6_list y
  have hx : vE x = .agg #[.int .u64 a0, .int .u64 a1, .int .u64 a2, .int .u64 a3, .int .u64 a4, .int .u64 a5] := by unfold vE ve nums; rw [ha]; rfl
  have hy : vE y = .agg #[.int .u64 b0, .int .u64 b1, .int .u64 b2, .int .u64 b3, .int .u64 b4, .int .u64 b5] := by unfold vE ve nums; rw [hb]; rfl
  rw [hx, hy, eqArr w ty hu]
  have hiff : ((a0 : Int) = b0 ∧ (a1 : Int) = b1 ∧ (a2 : Int) = b2 ∧ (a3 : Int) = b3 ∧ (a4 : Int) = b4 ∧ (a5 : Int) = b5) ↔ x % B64 ^ 6 = y % B64 ^ 6 := by
    rw [← fix_inj6, ha, hb]
    simp only [List.cons.injEq, and_true, Int.ofNat_inj]
  exact congrArg (fun b => Result.ok b w) (decide_eq_decide.2 hiff)
end
@[go_sem] theorem bin_eqlE (x y : Nat) (w : World) : (binOp .eql 98 (vE x) (vE y)).run Try.prog w = .ok (.bool (eqv x y)) w := by
  have h := run_eql_struct (P := Try.prog) (w := w) 98 (ve x).toArray (ve y).toArray
  have e := eqVE w 98 Try.underlying98 x y
  unfold vE at e ⊢
  rw [h, e]; rfl
@[go_sem] theorem bin_eqlEz (x : Nat) (w : World) : (binOp .eql 98 (vE x) (.agg #[.int .u64 0, .int .u64 0, .int .u64 0, .int .u64 0, .int .u64 0, .int .u64 0])).run Try.prog w = .ok (.bool (eqv x 0)) w := bin_eqlE x 0 w
@[go_sem] theorem bin_neqE (x y : Nat) (w : World) : (binOp .neq 98 (vE x) (vE y)).run Try.prog w = .ok (.bool (!eqv x y)) w := by
  have h := run_neq_struct (P := Try.prog) (w := w) 98 (ve x).toArray (ve y).toArray
  have e := eqVE w 98 Try.underlying98 x y
  unfold vE at e ⊢
  rw [h, e]; rfl
@[go_sem] theorem bin_neqEz (x : Nat) (w : World) : (binOp .neq 98 (vE x) (.agg #[.int .u64 0, .int .u64 0, .int .u64 0, .int .u64 0, .int .u64 0, .int .u64 0])).run Try.prog w = .ok (.bool (!eqv x 0)) w := bin_neqE x 0 w
@[go_sem] theorem grdE (op : BinOp) (a b : Operand) (x y : Nat) (w : World) : (eqGuard op 98 a b (vE x) (vE y)).run Try.prog w = .ok () w := run_eqGuard_agg w op _ a b (ve x).toArray (ve y).toArray (by kernel_rfl)
@[go_sem] theorem grdEz (op : BinOp) (a b : Operand) (x : Nat) (w : World) : (eqGuard op 98 a b (vE x) (.agg #[.int .u64 0, .int .u64 0, .int .u64 0, .int .u64 0, .int .u64 0, .int .u64 0])).run Try.prog w = .ok () w := grdE op a b x 0 w
@[go_sem] theorem bin_eqlN (x y : Nat) (w : World) : (binOp .eql 24 (vE x) (vE y)).run Try.prog w = .ok (.bool (eqv x y)) w := by
  have h := run_eql_struct (P := Try.prog) (w := w) 24 (ve x).toArray (ve y).toArray
  have e := eqVE w 24 Try.underlying24 x y
  unfold vE at e ⊢
  rw [h, e]; rfl
@[go_sem] theorem bin_eqlNz (x : Nat) (w : World) : (binOp .eql 24 (vE x) (.agg #[.int .u64 0, .int .u64 0, .int .u64 0, .int .u64 0, .int .u64 0, .int .u64 0])).run Try.prog w = .ok (.bool (eqv x 0)) w := bin_eqlN x 0 w
@[go_sem] theorem bin_neqN (x y : Nat) (w : World) : (binOp .neq 24 (vE x) (vE y)).run Try.prog w = .ok (.bool (!eqv x y)) w := by
  have h := run_neq_struct (P := Try.prog) (w := w) 24 (ve x).toArray (ve y).toArray
  have e := eqVE w 24 Try.underlying24 x y
  unfold vE at e ⊢
  rw [h, e]; rfl
@[go_sem] theorem bin_neqNz (x : Nat) (w : World) : (binOp .neq 24 (vE x) (.agg #[.int .u64 0, .int .u64 0, .int .u64 0, .int .u64 0, .int .u64 0, .int .u64 0])).run Try.prog w = .ok (.bool (!eqv x 0)) w := bin_neqN x 0 w
@[go_sem] theorem grdN (op : BinOp) (a b : Operand) (x y : Nat) (w : World) : (eqGuard op 24 a b (vE x) (vE y)).run Try.prog w = .ok () w := run_eqGuard_agg w op _ a b (ve x).toArray (ve y).toArray (by kernel_rfl)
@[go_sem] theorem grdNz (op : BinOp) (a b : Operand) (x : Nat) (w : World) : (eqGuard op 24 a b (vE x) (.agg #[.int .u64 0, .int .u64 0, .int .u64 0, .int .u64 0, .int .u64 0, .int .u64 0])).run Try.prog w = .ok () w := grdN op a b x 0 w

/-- the end of a function with two results: six numbers that lie in a block, and a slot. -/
theorem retTT (ty : TypeId) {fn : Func} {R : Ending → World → Prop} {a : Act} {w : World} {p u : Tmp} (hr : fn.results = #[.cell p ty, .tmp u]) {b v : Nat} {t : TypeId} (hp : a.tmps.getD p undef = .pointer (some ⟨b, 0, none⟩)) {z : Value} (hz : a.tmps.getD u undef = z)
    (hv : VB w b t (ve v)) {d : TypeDesc} (hu : Try.prog.underlying ty = some d) (hd : d.isRow = true) (hi : (Try.prog.info? ty).map (·.size) = some 6) (hdf : a.defers = []) (hR : R (.returned (.tuple #[vE v, z])) w) : bodyPost Try.prog fn R .ret a w := by
  refine bodyPost_ret (v := .tuple #[vE v, z]) ?_ hdf hR
  have hl := run_loadVar_row (P := Try.prog) w b t ty (ve v).toArray (0, 0) d hv hu (by cases d <;> simp_all [TypeDesc.isRow]) (by rw [hi]; simp [ve_length])
  rw [results_cell_tmp hr, hp, hz]
  simp only [asAddr, Sem.run_pure, Result.andThen_ok, hl]
  rfl

set_option maxRecDepth 100000 in
set_option maxHeartbeats 1600000 in
theorem finv_c (b bm P n size x : Nat) (w : World) (hF : FQ w b bm P n size) (hx : x < B64 ^ 6) :
    Calls Try.prog 27 #[.pointer (some ⟨b, 0, none⟩), vE x] w fun e w' => e = .returned (.tuple #[vE (x ^ (P - 2) % P), .bool (decide (x % P ≠ 0))]) ∧ Below w.heap.size w w' := by
  go_enter Try.func27, Try.ntmps27
  have hF := hide hF
  have hx := hide hx
  go_upto_region 2 with (first
    | ((with_reducible refine boxT 24 (o := ⟨some 3, _, _, _, _, _⟩) ?_ (.tmp 1) ?_ (v := x) ?_ ?_); rfl; rfl; rfl; intro w1 b1 hv1 hn1)
    | ((with_reducible refine allocT 24 (o := ⟨some 4, _, _, _, _, _⟩) ?_ ?_ Try.zr24 ?_); rfl; rfl; intro w2 b2 hv2 hn2)
    | ((with_reducible refine loadT 24 (o := ⟨some 8, _, _, _, _, _⟩) ?_ (.tmp 3) ?_ ?_ (hv1.next hn2.bl) Try.underlying24 rfl Try.sz24 ?_); rfl; rfl; rfl)
    | (go_at_call 65; refine (fin_c b bm P n size x w2 ((hF.out.next hn1.bl).next hn2.bl) hx.out).mono ?_; rintro e w3 ⟨rfl, hb3⟩; replace hb3 := hide hb3)
    | ((with_reducible refine allocN (o := ⟨some 6, _, _, _, _, _⟩) ?_ ?_ ?_); rfl; rfl; intro w4 b4 hv4 hn4)
    | ((with_reducible refine storeE (v' := mf P n x) (o := ⟨none, _, _, _, _, _⟩) ?_ (.tmp 6) (.tmp 9) ?_ ?_ ?_ hv4 ?_); rfl; rfl; rfl; rfl; intro w5 hv5 ho5))
  have hB4 := below_next (below_next (below_next hn1.bl hn2.bl) hb3.out) hn4.bl
  have Hb := hide (show w.heap.size ≤ b2 ∧ b2 < b4 ∧ b < b2 ∧ bm < b2 from
    ⟨Nat.le_trans hn1.bl.size hn2.lo, Nat.lt_of_lt_of_le (Nat.lt_of_lt_of_le hn2.hi hb3.out.size) hn4.lo,
      Nat.lt_of_lt_of_le (hF.out.next hn1.bl).vb.lt hn2.lo, Nat.lt_of_lt_of_le (hF.out.next hn1.bl).fb.vb.lt hn2.lo⟩)
  have HB := hide (Only.below hB4 ho5.out (by have := Hb.out; omega))
  have Hv2 := hide (ho5.out.vb ((hv2.next hb3.out).next hn4.bl) (by have := Hb.out; omega))
  have Hv5 := hide hv5
  have HF := hide (((((hF.out.next hn1.bl).next hn2.bl).next hb3.out).next hn4.bl).only ho5.out (by have := Hb.out; omega) (by have := Hb.out; omega))
  have hP0 := HF.out.pos
  clear hv1 hv2 hv4 hv5 hn1 hn2 hn4 ho5 hb3 hB4 hF
  refine region_do 12 21 [fun v _ => v = .pointer (some ⟨b, 0, none⟩), fun v _ => v = .pointer (some ⟨b, 0, none⟩), fun v _ => v = .pointer (some ⟨b, 0, none⟩), fun v _ => v = .pointer (some ⟨b, 0, none⟩), fun v _ => v = .pointer (some ⟨bm, 0, none⟩), fun v _ => v = vE (mf P n x), fun v _ => v = vE (mf P n (x ^ (P - 2))), fun v _ => v = vE (x ^ (P - 2) % P), fun v _ => v = vE (mf P n x), fun v _ => v = vE (0), fun v _ => v = .bool (!eqv (mf P n x) 0), fun _ w => VB w b2 24 (ve (x ^ (P - 2) % P))]
    [(0, .pointer (some ⟨b, 0, none⟩)), (6, .pointer (some ⟨b4, 0, none⟩)), (4, .pointer (some ⟨b2, 0, none⟩))] (fun w' => FQ w' b bm P n size ∧ VB w' b4 98 (ve (mf P n x))) (fun w' => VB w' b2 24 (ve 0)) 11 (some b2) (by kernel_rfl) (by kernel_rfl) rfl rfl
    (.cons (Fact.eq _) rfl (.cons (Fact.eq _) rfl (.cons (Fact.eq _) rfl (.cons (Fact.eq _) rfl (.cons (Fact.eq _) rfl (.cons (Fact.eq _) rfl (.cons (Fact.eq _) rfl (.cons (Fact.eq _) rfl (.cons (Fact.eq _) rfl (.cons (Fact.eq _) rfl (.cons (Fact.eq _) rfl (.store (fun w w' h hb => h.next hb) rfl (.nil _))))))))))))) (fun w' h => ⟨HF.out.only h (by have := Hb.out; omega) (by have := Hb.out; omega), h.vb Hv5.out (by have := Hb.out; omega)⟩) (fun w' h => Hv2.out.next h) (by kernel_rfl) ⟨rfl, rfl, rfl, trivial⟩ (.cons ?_ (.cons ?_ (.cons ?_ (.cons ?_ (.cons ?_ (.cons ?_ (.cons ?_ (.cons ?_ (.cons ?_ (.cons ?_ (.cons ?_ (.cons ?_ .nil)))))))))))) ?_
  · refine Obl.plain rfl _ rfl rfl [] (by kernel_rfl) fun a W hF hC hD K hK => ?_
    have e0 : a.tmps.getD 0 undef = .pointer (some ⟨b, 0, none⟩) := hF.1
    clear hF hD hC
    go_simp
    exact hK _ _ rfl (Below.refl _ _)
  · refine Obl.plain rfl _ rfl rfl [] (by kernel_rfl) fun a W hF hC hD K hK => ?_
    have e0 : a.tmps.getD 0 undef = .pointer (some ⟨b, 0, none⟩) := hF.1
    clear hF hD hC
    go_simp
    exact hK _ _ rfl (Below.refl _ _)
  · refine Obl.plain rfl _ rfl rfl [1] (by kernel_rfl) fun a W hF hC hD K hK => ?_
    have e11 : a.tmps.getD 11 undef = .pointer (some ⟨b, 0, none⟩) := hD.1
    clear hF hD hC
    go_simp
    exact hK _ _ rfl (Below.refl _ _)
  · refine Obl.plain rfl _ rfl rfl [2] (by kernel_rfl) fun a W hF hC hD K hK => ?_
    have e12 : a.tmps.getD 12 undef = .pointer (some ⟨b, 0, none⟩) := hD.1
    clear hF hD hC
    go_simp
    exact hK _ _ rfl (Below.refl _ _)
  · refine Obl.plain rfl _ rfl rfl [3] (by kernel_rfl) fun a W hF hC hD K hK => ?_
    obtain ⟨c1, c2⟩ := hC
    have e13 : a.tmps.getD 13 undef = .pointer (some ⟨b, 0, none⟩) := hD.1
    clear hF hD
    have f0 := c1.cellM
    go_simp
    exact hK _ _ rfl (Below.refl _ _)
  · refine Obl.plain rfl _ rfl rfl [] (by kernel_rfl) fun a W hF hC hD K hK => ?_
    obtain ⟨c1, c2⟩ := hC
    have e6 : a.tmps.getD 6 undef = .pointer (some ⟨b4, 0, none⟩) := hF.2.1
    clear hF hD
    exact wpE _ (.tmp 6) rfl c2 e6 Try.underlying98 rfl Try.sz98 (hK _ _ rfl (Below.refl _ _))
  · refine Obl.plain rfl _ rfl rfl [4, 5] (by kernel_rfl) fun a W hF hC hD K hK => ?_
    obtain ⟨c1, c2⟩ := hC
    have e14 : a.tmps.getD 14 undef = .pointer (some ⟨bm, 0, none⟩) := hD.1
    have e15 : a.tmps.getD 15 undef = vE (mf P n x) := hD.2.1
    clear hF hD
    go_simp
    refine (minv_c bm P n x W c1.fb c1.inv).mono ?_
    rintro e W' ⟨rfl, hb⟩
    exact hK _ _ rfl hb
  · refine Obl.plain rfl _ rfl rfl [0, 6, 6] (by kernel_rfl) fun a W hF hC hD K hK => ?_
    obtain ⟨c1, c2⟩ := hC
    have e10 : a.tmps.getD 10 undef = .pointer (some ⟨b, 0, none⟩) := hD.1
    have e16 : a.tmps.getD 16 undef = vE (mf P n (x ^ (P - 2))) := hD.2.1
    clear hF hD
    go_simp
    refine (fout_c b bm P n size (x ^ (P - 2)) W c1).mono ?_
    rintro e W' ⟨rfl, hb⟩
    exact hK _ _ rfl hb
  · refine Obl.plain rfl _ rfl rfl [] (by kernel_rfl) fun a W hF hC hD K hK => ?_
    obtain ⟨c1, c2⟩ := hC
    have e6 : a.tmps.getD 6 undef = .pointer (some ⟨b4, 0, none⟩) := hF.2.1
    clear hF hD
    exact wpE _ (.tmp 6) rfl c2 e6 Try.underlying98 rfl Try.sz98 (hK _ _ rfl (Below.refl _ _))
  · refine Obl.plain rfl _ rfl rfl [] (by kernel_rfl) fun a W hF hC hD K hK => ?_
    clear hF hD hC
    go_simp
    exact hK _ _ rfl (Below.refl _ _)
  · refine Obl.plain rfl _ rfl rfl [8, 9] (by kernel_rfl) fun a W hF hC hD K hK => ?_
    have e18 : a.tmps.getD 18 undef = vE (mf P n x) := hD.1
    have e19 : a.tmps.getD 19 undef = vE (0) := hD.2.1
    clear hF hD hC
    go_simp
    exact hK _ _ rfl (Below.refl _ _)
  · refine Obl.write rfl rfl _ rfl rfl [7, 7, 0, 1, 2, 3, 4, 5, 6, 7] (by kernel_rfl) fun a W hF hC hC0 hD K hK => ?_
    have e4 : a.tmps.getD 4 undef = .pointer (some ⟨b2, 0, none⟩) := hF.2.2.1
    have e17 : a.tmps.getD 17 undef = vE (x ^ (P - 2) % P) := hD.1
    clear hF hD hC
    exact wpSt 24 (.tmp 4) (.tmp 17) rfl e4 e17 hC0 Try.sz24 fun W' hv ho => hK _ _ hv ho
  rintro w6 hB6 hC6 _ rfl _ rfl _ rfl _ rfl _ rfl _ rfl _ rfl _ rfl _ rfl _ rfl _ rfl _ gw
  change Only _ _ _ at hB6
  change wpList _ _ _ _ _ _
  simp only [List.drop_succ_cons, List.drop_zero, Act.put, List.setIfInBounds_toArray, List.set_cons_zero, List.set_cons_succ]
  have hB6' : Only w5 w6 b2 := hB6
  have hq : (!eqv (mf P n x) 0) = decide (x % P ≠ 0) := by
    rw [eqv_lt (Nat.lt_trans (mf_lt hP0 x) HF.out.lt6) (pw_pos 6)]
    have h0 : mf P n x = 0 ↔ x % P = 0 := by
      have := mf_inj (n := n) HF.out.inv (X := x) (Y := 0)
      rw [mf_zero, Nat.zero_mod] at this; exact this
    by_cases h : x % P = 0
    · rw [decide_eq_true (h0.2 h)]; simp [h]
    · rw [decide_eq_false (fun e => h (h0.1 e))]; simp [h]
  rw [hq]
  clear hC6 hB6 hq
  have hB6' := hide hB6'
  go_wp2_with fail
  exact retTT 24 rfl rfl rfl gw Try.underlying24 rfl Try.sz24 rfl ⟨rfl, Only.below HB.out hB6'.out Hb.out.1⟩
end Go.Proofs.Ytincemkjdgbnnaa
