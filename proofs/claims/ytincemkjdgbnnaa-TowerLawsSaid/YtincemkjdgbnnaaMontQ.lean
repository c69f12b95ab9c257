/- Walks: package mont: Square, To, From. Walks: package mont: Exp, Inv. -/
import Derived.Test.YtincemkjdgbnnaaMontP
import Derived.Test.YtincemkjdgbnnaaSched
set_option linter.unusedVariables false
set_option linter.unusedSimpArgs false
namespace Go.Proofs.Ytincemkjdgbnnaa
open Go.RowKit Lm

theorem Try.sz98 : (Try.prog.info? 98).map (·.size) = some 6 := by kernel_rfl
theorem Try.sz23 : (Try.prog.info? 23).map (·.size) = some 6 := by kernel_rfl
theorem Try.sz24 : (Try.prog.info? 24).map (·.size) = some 6 := by kernel_rfl
theorem Try.zr98 : (Try.prog.info? 98).map (·.zero) = some (some (.agg (ve 0).toArray)) := by kernel_rfl
theorem Try.zr23 : (Try.prog.info? 23).map (·.zero) = some (some (.agg (ve 0).toArray)) := by kernel_rfl
theorem Try.zr24 : (Try.prog.info? 24).map (·.zero) = some (some (.agg (ve 0).toArray)) := by kernel_rfl

section
variable {ops : Array Oper} {rest : List Oper} {o : Oper} {a : Act} {w : World} {Q : Exit → Act → World → Prop} {K : Act → World → Prop}
/-- six numbers in a block of their own are read: an operation. -/
theorem wpE (ty : TypeId) (x : Operand) (ho : o.op = .load ty x) {b v : Nat} {t : TypeId} (hv : VB w b t (ve v)) (hx : a.eval x = .pointer (some ⟨b, 0, none⟩)) {d : TypeDesc} (hu : Try.prog.underlying ty = some d) (hd : d.isRow = true)
    (hi : (Try.prog.info? ty).map (·.size) = some 6) (h : K (a.put o.dst (vE v)) w) : o.wp Try.prog a w K Q :=
  wp_load_mid ty x ho b 0 hx (ve v) d (fun j v hj => by rw [Nat.zero_add, hv.cell, hj]) hu hd (by rw [ve_length]; exact hi) h
/-- six numbers are written into a block of their own: an operation. -/
theorem wpSt (ty : TypeId) (x y : Operand) (ho : o.op = .store ty x y) {b v v' : Nat} {t : TypeId} (hx : a.eval x = .pointer (some ⟨b, 0, none⟩)) (hy : a.eval y = vE v') (hv : VB w b t (ve v))
    (hi : (Try.prog.info? ty).map (·.size) = some 6) (h : ∀ w', VB w' b t (ve v') → Only w w' b → K (a.put o.dst undef) w') : o.wp Try.prog a w K Q := by
  obtain ⟨w', hrun, hv', ho'⟩ := storeA_run (P := Try.prog) (off := 0) hv (ty := ty) (ve v') (by rw [ve_length]; exact hi) (ve_one v') (by rw [ve_length, ve_length]; exact Nat.le_refl _)
  rw [List.take_zero, List.nil_append, ve_length, Nat.zero_add, ← ve_length v, List.drop_length, List.append_nil] at hv'
  unfold Oper.wp execOp
  simp only [ho, hx, hy, vE, Sem.run_bind, hrun, Result.andThen_ok, Sem.run_pure]
  exact h w' hv' ho'
/-- a part of a field's block is read. -/
theorem wpF (x : Operand) (ho : o.op = .load 98 x) {b P n v : Nat} (hF : FB w b P n) (off : Nat) (hx : a.eval x = .pointer (some ⟨b, off, none⟩)) (hv : ((fcells P n).drop off).take 6 = ve v) (h20 : off + 6 ≤ 20)
    (h : K (a.put o.dst (vE v)) w) : o.wp Try.prog a w K Q :=
  wp_load_mid _ x ho b off hx (ve v) _ (fun j u hj => by
    rw [hF.vb.cell]
    rw [← hv, List.getElem?_take] at hj
    split at hj
    · rwa [List.getElem?_drop] at hj
    · cases hj) Try.underlying98 rfl (by rw [ve_length]; exact Try.sz98) h

/-- the same laws for each type of six numbers, in a region without a draw. -/
theorem boxT (ty : TypeId) (hgd : o.guard = none) (x : Operand) (ho : o.op = .box ty x) {v : Nat} (hx : a.eval x = vE v)
    (h : ∀ w' b, VB w' b ty (ve v) → New w w' b → wpList Try.prog ops Q rest (a.put o.dst (.pointer (some ⟨b, 0, none⟩))) w') : wpList Try.prog ops Q (o :: rest) a w :=
  wpList_box hgd _ x ho (ve v) hx fun w' b h1 h2 h3 h4 => h w' b h2 ⟨by rw [h1]; exact Nat.le_refl _, by rw [h4]; omega, h3⟩
theorem allocT (ty : TypeId) (hgd : o.guard = none) (ho : o.op = .alloc ty) (hz : (Try.prog.info? ty).map (·.zero) = some (some (.agg (ve 0).toArray)))
    (h : ∀ w' b, VB w' b ty (ve 0) → New w w' b → wpList Try.prog ops Q rest (a.put o.dst (.pointer (some ⟨b, 0, none⟩))) w') : wpList Try.prog ops Q (o :: rest) a w :=
  wpList_alloc hgd _ ho (ve 0) hz fun w' b h1 h2 h3 h4 => h w' b h2 ⟨by rw [h1]; exact Nat.le_refl _, by rw [h4]; omega, h3⟩
theorem loadT (ty : TypeId) (hgd : o.guard = none) (x : Operand) (ho : o.op = .load ty x) {b v : Nat} {t : TypeId} (hx : a.eval x = .pointer (some ⟨b, 0, none⟩)) (hv : VB w b t (ve v)) {d : TypeDesc} (hu : Try.prog.underlying ty = some d) (hd : d.isRow = true)
    (hi : (Try.prog.info? ty).map (·.size) = some 6) (h : wpList Try.prog ops Q rest (a.put o.dst (vE v)) w) : wpList Try.prog ops Q (o :: rest) a w :=
  wpList_loadW hgd _ x ho hx hv hu hd (by rw [ve_length]; exact hi) h
theorem storeT (ty : TypeId) (hgd : o.guard = none) (x y : Operand) (ho : o.op = .store ty x y) {b v v' : Nat} {t : TypeId} (hx : a.eval x = .pointer (some ⟨b, 0, none⟩)) (hy : a.eval y = vE v') (hv : VB w b t (ve v))
    (hi : (Try.prog.info? ty).map (·.size) = some 6) (h : ∀ w', VB w' b t (ve v') → Hid (Only w w' b) → wpList Try.prog ops Q rest (a.put o.dst undef) w') : wpList Try.prog ops Q (o :: rest) a w :=
  wpList_storeW hgd _ x y ho hx hv (ve v') hy (by rw [ve_length]; exact hi) (ve_one v') (by rw [ve_length, ve_length]) fun w' h1 h2 => h w' h1 (hide h2)
theorem retT (ty : TypeId) {fn : Func} {R : Ending → World → Prop} {p : Tmp} (hr : fn.results = #[.cell p ty]) {b v : Nat} {t : TypeId} (hp : a.tmps.getD p undef = .pointer (some ⟨b, 0, none⟩))
    (hv : VB w b t (ve v)) {d : TypeDesc} (hu : Try.prog.underlying ty = some d) (hd : d.isRow = true) (hi : (Try.prog.info? ty).map (·.size) = some 6) (hdf : a.defers = []) (hR : R (.returned (vE v)) w) : bodyPost Try.prog fn R .ret a w :=
  bodyPost_cell hr hp hv hu (by cases d <;> simp_all [TypeDesc.isRow]) (by rw [ve_length]; exact hi) hdf hR
end

/-- a number X in Montgomery's form; Montgomery's product; what stands for R in that form. -/
def mf (P n X : Nat) : Nat := X * B64 ^ n % P
def mm (P n x y : Nat) : Nat := x * y * rinv P n % P
def sqv (P n : Nat) : Nat := B64 ^ (2 * n) % P
/-- what is missing to 0. -/
def ng (P Y : Nat) : Nat := P - Y % P
section
variable {P n : Nat}
theorem mf_lt (hP : 0 < P) (X : Nat) : mf P n X < P := Nat.mod_lt _ hP
theorem mm_lt (hP : 0 < P) (x y : Nat) : mm P n x y < P := Nat.mod_lt _ hP
theorem sqv_lt (hP : 0 < P) : sqv P n < P := Nat.mod_lt _ hP
theorem rinv_cancel (h : InvOk P) (x : Nat) : x * (B64 ^ n * rinv P n) % P = x % P := binv_pow h n x
theorem mm_mf (h : InvOk P) (X Y : Nat) : mm P n (mf P n X) (mf P n Y) = mf P n (X * Y) := by
  unfold mm mf
  rw [Nat.mul_assoc, modmul, Nat.mul_left_comm, modmul]
  rw [show Y * B64 ^ n * (X * B64 ^ n * rinv P n) = (X * Y * B64 ^ n) * (B64 ^ n * rinv P n) by simp only [Nat.mul_assoc, Nat.mul_comm, Nat.mul_left_comm], rinv_cancel h]
theorem ma_mf (X Y : Nat) : (mf P n X + mf P n Y) % P = mf P n (X + Y) := by
  unfold mf; rw [← Nat.add_mod, Nat.add_mul]
theorem mg_mf (hP : 0 < P) (Y : Nat) : (P - mf P n Y) % P = mf P n (ng P Y) := by
  have h1 := mf_lt (n := n) hP Y
  have h2 : (mf P n Y + mf P n (ng P Y)) % P = 0 := by
    rw [ma_mf]; unfold mf ng
    rw [← modmul, show (Y + (P - Y % P)) % P = 0 by
      have := Nat.mod_lt Y hP
      rw [← Nat.mod_add_mod, show Y % P + (P - Y % P) = P by omega, Nat.mod_self], Nat.zero_mul, Nat.zero_mod]
  have h3 := mf_lt (n := n) hP (ng P Y)
  generalize mf P n Y = y at *
  generalize mf P n (ng P Y) = z at *
  rcases Nat.eq_zero_or_pos (y + z) with h | h
  · rw [show y = 0 by omega, show z = 0 by omega, Nat.sub_zero, Nat.mod_self]
  · have : y + z = P := by
      rcases Nat.lt_or_ge (y + z) P with h4 | h4
      · rw [Nat.mod_eq_of_lt h4] at h2; omega
      · rw [Nat.mod_eq_sub_mod h4, Nat.mod_eq_of_lt (by omega)] at h2; omega
    rw [show P - y = z by omega, Nat.mod_eq_of_lt h3]
theorem ms_mf (hP : 0 < P) (X Y : Nat) : (mf P n X + P - mf P n Y) % P = mf P n (X + ng P Y) := by
  have h1 := mf_lt (n := n) hP Y
  rw [← ma_mf, ← mg_mf hP, Nat.add_mod_mod]
  congr 1; omega
theorem mf_one : mf P n 1 = B64 ^ n % P := by unfold mf; rw [Nat.one_mul]
theorem mm_sqv (h : InvOk P) (x : Nat) : mm P n x (sqv P n) = mf P n x := by
  unfold mm mf sqv
  rw [Nat.mul_assoc, Nat.mul_left_comm, modmul, Nat.two_mul, Nat.pow_add,
    show B64 ^ n * B64 ^ n * (x * rinv P n) = (x * B64 ^ n) * (B64 ^ n * rinv P n) by simp only [Nat.mul_assoc, Nat.mul_comm, Nat.mul_left_comm], rinv_cancel h]
theorem mm_one (h : InvOk P) (X : Nat) : mm P n (mf P n X) 1 = X % P := by
  unfold mm mf
  rw [Nat.mul_one, modmul, Nat.mul_assoc, rinv_cancel h]
theorem mf_mod (X : Nat) : mf P n (X % P) = mf P n X := by unfold mf; rw [modmul]
theorem mf_zero : mf P n 0 = 0 := by unfold mf; rw [Nat.zero_mul, Nat.zero_mod]
theorem mf_inj (h : InvOk P) {X Y : Nat} : mf P n X = mf P n Y ↔ X % P = Y % P := by
  constructor
  · intro e; rw [← mm_one (n := n) h X, ← mm_one (n := n) h Y, e]
  · intro e; rw [← mf_mod X, ← mf_mod Y, e]
end

theorem mmul_r (bm P n x y : Nat) (w : World) (hF : FB w bm P n) (hI : InvOk P) (hx : x < P) (hy : y < P) :
    Calls Try.prog 70 #[.pointer (some ⟨bm, 0, none⟩), vE x, vE y] w fun e w' => e = .returned (vE (mm P n x y)) ∧ Below w.heap.size w w' := mmul_any bm P n x y w hF hI hx hy
/-- in Montgomery's form. -/
theorem mmul_c (bm P n X Y : Nat) (w : World) (hF : FB w bm P n) (hI : InvOk P) :
    Calls Try.prog 70 #[.pointer (some ⟨bm, 0, none⟩), vE (mf P n X), vE (mf P n Y)] w fun e w' => e = .returned (vE (mf P n (X * Y))) ∧ Below w.heap.size w w' := by
  have hP : 0 < P := by have := hF.gt; omega
  have h := mmul_r bm P n (mf P n X) (mf P n Y) w hF hI (mf_lt hP X) (mf_lt hP Y)
  rwa [mm_mf hI] at h
theorem madd_c (bm P n X Y : Nat) (w : World) (hF : FB w bm P n) :
    Calls Try.prog 75 #[.pointer (some ⟨bm, 0, none⟩), vE (mf P n X), vE (mf P n Y)] w fun e w' => e = .returned (vE (mf P n (X + Y))) ∧ Below w.heap.size w w' := by
  have hP : 0 < P := by have := hF.gt; omega
  have h := madd_any bm P n (mf P n X) (mf P n Y) w hF (mf_lt hP X) (mf_lt hP Y)
  rwa [ma_mf] at h
theorem msub_c (bm P n X Y : Nat) (w : World) (hF : FB w bm P n) :
    Calls Try.prog 77 #[.pointer (some ⟨bm, 0, none⟩), vE (mf P n X), vE (mf P n Y)] w fun e w' => e = .returned (vE (mf P n (X + ng P Y))) ∧ Below w.heap.size w w' := by
  have hP : 0 < P := by have := hF.gt; omega
  have h := msub_any bm P n (mf P n X) (mf P n Y) w hF (mf_lt hP X) (mf_lt hP Y)
  rwa [ms_mf hP] at h
theorem mneg_c (bm P n Y : Nat) (w : World) (hF : FB w bm P n) :
    Calls Try.prog 135 #[.pointer (some ⟨bm, 0, none⟩), vE (mf P n Y)] w fun e w' => e = .returned (vE (mf P n (ng P Y))) ∧ Below w.heap.size w w' := by
  have hP : 0 < P := by have := hF.gt; omega
  have h := mneg_any bm P n (mf P n Y) w hF (mf_lt hP Y)
  rwa [mg_mf hP] at h
theorem mone_c (bm P n : Nat) (w : World) (hF : FB w bm P n) :
    Calls Try.prog 144 #[.pointer (some ⟨bm, 0, none⟩)] w fun e w' => e = .returned (vE (mf P n 1)) ∧ Below w.heap.size w w' := by
  rw [mf_one]; exact mone_any bm P n w hF
theorem part_one' (P n : Nat) : ((fcells P n).drop 8).take 6 = ve (mf P n 1) := by rw [mf_one]; rfl
theorem part_sq' (P n : Nat) : ((fcells P n).drop 14).take 6 = ve (sqv P n) := rfl

set_option maxRecDepth 100000 in
theorem msquare_c (bm P n X : Nat) (w : World) (hF : FB w bm P n) (hI : InvOk P) :
    Calls Try.prog 127 #[.pointer (some ⟨bm, 0, none⟩), vE (mf P n X)] w fun e w' => e = .returned (vE (mf P n (X * X))) ∧ Below w.heap.size w w' := by
  go_enter Try.func127, Try.ntmps127
  have hF := hide hF
  have hI := hide hI
  go_wp2_with (first
    | ((with_reducible refine boxN (o := ⟨some 3, _, _, _, _, _⟩) ?_ (.tmp 1) ?_ (v := mf P n X) ?_ ?_); rfl; rfl; rfl; intro w1 b1 hv1 hn1)
    | ((with_reducible refine allocN (o := ⟨some 4, _, _, _, _, _⟩) ?_ ?_ ?_); rfl; rfl; intro w3 b3 hv3 hn3)
    | ((with_reducible refine loadE (o := ⟨some 6, _, _, _, _, _⟩) ?_ (.tmp 3) ?_ ?_ (hv1.next hn3.bl) ?_); rfl; rfl; rfl)
    | ((with_reducible refine loadE (o := ⟨some 7, _, _, _, _, _⟩) ?_ (.tmp 3) ?_ ?_ (hv1.next hn3.bl) ?_); rfl; rfl; rfl)
    | (go_at_call 70; refine (mmul_c bm P n X X w3 ((hF.out.next hn1.bl).next hn3.bl) hI.out).mono ?_; rintro e w4 ⟨rfl, hb4⟩; replace hb4 := hide hb4)
    | ((with_reducible refine storeE (v' := mf P n (X * X)) (o := ⟨none, _, _, _, _, _⟩) ?_ (.tmp 4) (.tmp 8) ?_ ?_ ?_ (hv3.next hb4.out) ?_); rfl; rfl; rfl; rfl; intro w6 hv6 ho6))
  exact retE rfl rfl hv6 rfl ⟨rfl, Only.below (below_next (below_next hn1.bl hn3.bl) hb4.out) ho6.out (by have := hn1.sz; have := hn3.lo; omega)⟩

set_option maxRecDepth 100000 in
theorem mto_c (bm P n x : Nat) (w : World) (hF : FB w bm P n) (hI : InvOk P) (hx : x < P) :
    Calls Try.prog 112 #[.pointer (some ⟨bm, 0, none⟩), vE x] w fun e w' => e = .returned (vE (mf P n x)) ∧ Below w.heap.size w w' := by
  go_enter Try.func112, Try.ntmps112
  have hF := hide hF
  have hI := hide hI
  go_upto_region 1 with (first
    | ((with_reducible refine boxT 23 (o := ⟨some 3, _, _, _, _, _⟩) ?_ (.tmp 1) ?_ (v := x) ?_ ?_); rfl; rfl; rfl; intro w1 b1 hv1 hn1)
    | ((with_reducible refine allocN (o := ⟨some 4, _, _, _, _, _⟩) ?_ ?_ ?_); rfl; rfl; intro w3 b3 hv3 hn3))
  have hF3 := hide ((hF.out.next hn1.bl).next hn3.bl)
  have hv13 := hide (hv1.next hn3.bl)
  refine region_do 7 12 [fun v _ => v = .pointer (some ⟨bm, 0, none⟩), fun v _ => v = vE (x), fun v _ => v = .pointer (some ⟨bm, 0, none⟩), fun v _ => v = .pointer (some ⟨bm, 0, none⟩), fun v _ => v = .pointer (some ⟨bm, 14, none⟩), fun v _ => v = vE (sqv P n), fun v _ => v = vE (mm P n x (sqv P n))]
    [(0, .pointer (some ⟨bm, 0, none⟩)), (3, .pointer (some ⟨b1, 0, none⟩))] (fun w' => VB w' b1 23 (ve x) ∧ FB w' bm P n) (fun w' => True) 999 none (by kernel_rfl) (by kernel_rfl) rfl rfl
    (.cons (Fact.eq _) rfl (.cons (Fact.eq _) rfl (.cons (Fact.eq _) rfl (.cons (Fact.eq _) rfl (.cons (Fact.eq _) rfl (.cons (Fact.eq _) rfl (.cons (Fact.eq _) rfl (.nil _)))))))) (fun w' h => ⟨hv13.out.next h, hF3.out.next h⟩) (fun w' h => trivial) (by kernel_rfl) ⟨rfl, rfl, trivial⟩ (.cons ?_ (.cons ?_ (.cons ?_ (.cons ?_ (.cons ?_ (.cons ?_ (.cons ?_ .nil))))))) ?_
  · refine Obl.plain rfl _ rfl rfl [] (by kernel_rfl) fun a W hF hC hD K hK => ?_
    have e0 : a.tmps.getD 0 undef = .pointer (some ⟨bm, 0, none⟩) := hF.1
    clear hF hD hC
    go_simp
    exact hK _ _ rfl (Below.refl _ _)
  · refine Obl.plain rfl _ rfl rfl [] (by kernel_rfl) fun a W hF hC hD K hK => ?_
    obtain ⟨c1, c2⟩ := hC
    have e3 : a.tmps.getD 3 undef = .pointer (some ⟨b1, 0, none⟩) := hF.2.1
    clear hF hD
    exact wpE _ (.tmp 3) rfl c1 e3 Try.underlying23 rfl Try.sz23 (hK _ _ rfl (Below.refl _ _))
  · refine Obl.plain rfl _ rfl rfl [] (by kernel_rfl) fun a W hF hC hD K hK => ?_
    have e0 : a.tmps.getD 0 undef = .pointer (some ⟨bm, 0, none⟩) := hF.1
    clear hF hD hC
    go_simp
    exact hK _ _ rfl (Below.refl _ _)
  · refine Obl.plain rfl _ rfl rfl [2] (by kernel_rfl) fun a W hF hC hD K hK => ?_
    have e7 : a.tmps.getD 7 undef = .pointer (some ⟨bm, 0, none⟩) := hD.1
    clear hF hD hC
    go_simp
    exact hK _ _ rfl (Below.refl _ _)
  · refine Obl.plain rfl _ rfl rfl [3] (by kernel_rfl) fun a W hF hC hD K hK => ?_
    have e8 : a.tmps.getD 8 undef = .pointer (some ⟨bm, 0, none⟩) := hD.1
    clear hF hD hC
    go_simp
    exact hK _ _ rfl (Below.refl _ _)
  · refine Obl.plain rfl _ rfl rfl [4] (by kernel_rfl) fun a W hF hC hD K hK => ?_
    obtain ⟨c1, c2⟩ := hC
    have e9 : a.tmps.getD 9 undef = .pointer (some ⟨bm, 14, none⟩) := hD.1
    clear hF hD
    exact wpF (.tmp 9) rfl c2 14 e9 (part_sq' P n) (by decide) (hK _ _ rfl (Below.refl _ _))
  · refine Obl.plain rfl _ rfl rfl [0, 1, 5] (by kernel_rfl) fun a W hF hC hD K hK => ?_
    obtain ⟨c1, c2⟩ := hC
    have e5 : a.tmps.getD 5 undef = .pointer (some ⟨bm, 0, none⟩) := hD.1
    have e6 : a.tmps.getD 6 undef = vE (x) := hD.2.1
    have e10 : a.tmps.getD 10 undef = vE (sqv P n) := hD.2.2.1
    clear hF hD
    go_simp
    refine (mmul_r bm P n x (sqv P n) W c2 hI.out hx (sqv_lt (by omega))).mono ?_
    rintro e W' ⟨rfl, hb⟩
    exact hK _ _ rfl hb
  rintro w4 hB4 hC4 _ rfl _ rfl _ rfl _ rfl _ rfl _ rfl _ rfl
  change Below _ _ _ at hB4
  change wpList _ _ _ _ _ _
  simp only [List.drop_succ_cons, List.drop_zero, Act.put, List.setIfInBounds_toArray, List.set_cons_zero, List.set_cons_succ]
  have hb4 := hide hB4
  clear hB4 hC4
  go_wp2_with ((with_reducible refine storeE (v' := mm P n x (sqv P n)) (o := ⟨none, _, _, _, _, _⟩) ?_ (.tmp 4) (.tmp 11) ?_ ?_ ?_ (hv3.next hb4.out) ?_); rfl; rfl; rfl; rfl; intro w6 hv6 ho6)
  exact retE rfl rfl hv6 rfl ⟨congrArg (fun z => Ending.returned (vE z)) (mm_sqv hI.out x), Only.below (below_next (below_next hn1.bl hn3.bl) hb4.out) ho6.out (by have := hn1.sz; have := hn3.lo; omega)⟩

set_option maxRecDepth 100000 in
theorem mfrom_c (bm P n X : Nat) (w : World) (hF : FB w bm P n) (hI : InvOk P) :
    Calls Try.prog 109 #[.pointer (some ⟨bm, 0, none⟩), vE (mf P n X)] w fun e w' => e = .returned (vE (X % P)) ∧ Below w.heap.size w w' := by
  go_enter Try.func109, Try.ntmps109
  have hF := hide hF
  have hI := hide hI
  go_wp2_with (first
    | ((with_reducible refine boxN (o := ⟨some 3, _, _, _, _, _⟩) ?_ (.tmp 1) ?_ (v := mf P n X) ?_ ?_); rfl; rfl; rfl; intro w1 b1 hv1 hn1)
    | ((with_reducible refine allocT 23 (o := ⟨some 4, _, _, _, _, _⟩) ?_ ?_ Try.zr23 ?_); rfl; rfl; intro w3 b3 hv3 hn3)
    | ((with_reducible refine loadE (o := ⟨some 6, _, _, _, _, _⟩) ?_ (.tmp 3) ?_ ?_ (hv1.next hn3.bl) ?_); rfl; rfl; rfl)
    | (go_at_call 70; refine (mmul_r bm P n (mf P n X) 1 w3 ((hF.out.next hn1.bl).next hn3.bl) hI.out (mf_lt (by have := hF.out.gt; omega) X) hF.out.gt).mono ?_; rintro e w4 ⟨rfl, hb4⟩; replace hb4 := hide hb4)
    | ((with_reducible refine storeT 23 (v' := mm P n (mf P n X) 1) (o := ⟨none, _, _, _, _, _⟩) ?_ (.tmp 4) (.tmp 8) ?_ ?_ ?_ (hv3.next hb4.out) Try.sz23 ?_); rfl; rfl; rfl; rfl; intro w6 hv6 ho6))
  exact retT 23 rfl rfl hv6 Try.underlying23 rfl Try.sz23 rfl ⟨congrArg (fun z => Ending.returned (vE z)) (mm_one hI.out X), Only.below (below_next (below_next hn1.bl hn3.bl) hb4.out) ho6.out (by have := hn1.sz; have := hn3.lo; omega)⟩
end Go.Proofs.Ytincemkjdgbnnaa

set_option linter.unusedVariables false
set_option linter.unusedSimpArgs false
namespace Go.Proofs.Ytincemkjdgbnnaa
open Go.RowKit Lm

/-- a slice that a call has handed back. -/
def RetV (w : World) (k : IntKind) (l : List Nat) (v : Value) : Prop := ∃ A c, v = .slice A l.length c ∧ l.length ≤ c ∧ Rd w k A l
theorem RetV.next {w w' : World} {k : IntKind} {l : List Nat} {v : Value} (h : RetV w k l v) (hb : Below w.heap.size w w') : RetV w' k l v := by
  obtain ⟨A, c, h1, h2, h3⟩ := h
  exact ⟨A, c, h1, h2, h3.below hb⟩

theorem exp_round (X e i : Nat) : X ^ (e / 2 ^ i) = X ^ (e / 2 ^ (i + 1)) * X ^ (e / 2 ^ (i + 1)) * X ^ (e / 2 ^ i % 2) := by
  rw [← Nat.pow_add, ← Nat.pow_add]
  congr 1
  rw [Nat.pow_succ, ← Nat.div_div_eq_div_mul]
  omega

set_option maxRecDepth 100000 in
set_option maxHeartbeats 1600000 in
theorem mexp_c (bm P n X : Nat) (A : Option Addr) (c : Nat) (l : List Nat) (w : World) (hF : FB w bm P n) (hI : InvOk P) (hr : Rd w .u64 A l) (hc : l.length ≤ c) (hlim : l.length ≤ 1073741824) (hok : Ok B64 l) :
    Calls Try.prog 64 #[.pointer (some ⟨bm, 0, none⟩), vE (mf P n X), .slice A l.length c] w fun e w' => e = .returned (vE (mf P n (X ^ val B64 l))) ∧ Below w.heap.size w w' := by
  have hbl : blen (val B64 l) ≤ 64 * l.length := blen_le_of_lt (by
    have := val_lt hok
    rwa [show B64 = 2 ^ 64 by decide, ← Nat.pow_mul] at this)
  have Hbl := hide (show blen (val B64 l) ≤ 68719476736 by omega)
  have Hfull := hide (lt_blen (val B64 l))
  have Hbits := hide (fun W h => bits_any A c l W h hc (by unfold lim; omega) hok)
  have Hbit := hide (fun W i h hi => bit_any A c l i W h hc (by unfold lim; omega) hok hi)
  obtain ⟨e, he⟩ : ∃ e, e = val B64 l := ⟨_, rfl⟩
  rw [← he] at Hbl Hfull Hbits Hbit ⊢
  have Hr := hide hr
  have hF := hide hF
  have hI := hide hI
  clear hr hbl he hok
  go_enter Try.func64, Try.ntmps64
  go_upto_region 2 with (first
    | ((with_reducible refine boxN (o := ⟨some 4, _, _, _, _, _⟩) ?_ (.tmp 1) ?_ (v := mf P n X) ?_ ?_); rfl; rfl; rfl; intro w1 b1 hv1 hn1)
    | ((with_reducible refine allocN (o := ⟨some 6, _, _, _, _, _⟩) ?_ ?_ ?_); rfl; rfl; intro w2 b2 hv2 hn2)
    | ((with_reducible refine loadF (o := ⟨some 12, _, _, _, _, _⟩) ?_ (.tmp 11) ?_ ((hF.out.next hn1.bl).next hn2.bl) 8 ?_ (part_one' P n) ?_ ?_); rfl; rfl; rfl; exact (by decide : 8 + 6 ≤ 20))
    | ((with_reducible refine allocN (o := ⟨some 7, _, _, _, _, _⟩) ?_ ?_ ?_); rfl; rfl; intro w3 b3 hv3 hn3)
    | ((with_reducible refine storeE (v' := mf P n 1) (o := ⟨none, _, _, _, _, _⟩) ?_ (.tmp 7) (.tmp 12) ?_ ?_ ?_ hv3 ?_); rfl; rfl; rfl; rfl; intro w4 hv4 ho4))
  have hB3 := below_next (below_next hn1.bl hn2.bl) hn3.bl
  have Hb := hide (show w.heap.size ≤ b1 ∧ b1 < b2 ∧ b2 < b3 ∧ b3 < w3.heap.size ∧ bm < b1 from
    ⟨hn1.lo, Nat.lt_of_lt_of_le hn1.hi hn2.lo, Nat.lt_of_lt_of_le hn2.hi hn3.lo, hn3.hi, Nat.lt_of_lt_of_le hF.out.vb.lt hn1.lo⟩)
  have HB4 := hide (Only.below hB3 ho4.out (by have := Hb.out; omega))
  have Hv1 := hide (ho4.out.vb ((hv1.next hn2.bl).next hn3.bl) (by have := Hb.out; omega))
  have Hv2 := hide (ho4.out.vb (hv2.next hn3.bl) (by have := Hb.out; omega))
  have HF := hide ((hF.out.next hB3).only ho4.out (by have := Hb.out; omega))
  have HR := hide ((((Hr.out.toB).next hB3).only ho4.out (by have := Hb.out; omega)))
  have Hv4 := hide hv4
  have hP0 : 0 < P := by have := HF.out.gt; omega
  clear hv1 hv2 hv3 hv4 hn1 hn2 hn3 ho4 hB3 hF Hr
  have iw := wrap_in ((blen e : Int) - 1) (by omega) (by have := Hbl.out; omega)
  go_upto_region 3 with (go_at_call 110; refine (Hbits.out _ HR.out.rd).mono ?_; rintro e5 w5 ⟨rfl, hb5⟩; replace hb5 := hide hb5)
  have HB5 := hide (below_next HB4.out hb5.out)
  have Hv15 := hide (Hv1.out.next hb5.out)
  have Hv25 := hide (Hv2.out.next hb5.out)
  have HF5 := hide (HF.out.next hb5.out)
  have HR5 := hide (HR.out.next hb5.out)
  have Hv5 := hide (Hv4.out.next hb5.out)
  clear HB4 Hv1 Hv2 HF HR Hv4 hb5 Hbits
  go_loopw [8] (fun k wr => ∃ j : Nat, j ≤ blen e ∧ k = .int .i64 ((j : Int) - 1) ∧ Only w5 wr b3 ∧ VB wr b3 98 (ve (mf P n (X ^ (e / 2 ^ j))))) (fun k _ => (intOf k + 1).toNat)
  case atStart =>
    exact ⟨blen e, Nat.le_refl _, rfl, Only.refl _ _, by rw [Nat.div_eq_of_lt Hfull.out, Nat.pow_zero]; exact Hv5.out⟩
  case round =>
    obtain ⟨j, hj, rfl, hon, hvr⟩ := hrel
    have Hon := hide hon
    have Hvr := hide hvr
    clear hon hvr iw
    rcases Nat.eq_zero_or_pos j with h0 | h0
    · subst h0
      have hv2 := hide (Hon.out.vb Hv25.out (by have := Hb.out; omega))
      go_wp2_with (first
        | ((with_reducible refine loadE (o := ⟨some 32, _, _, _, _, _⟩) ?_ (.tmp 7) ?_ ?_ Hvr.out ?_); rfl; rfl; rfl)
        | ((with_reducible refine storeE (v' := mf P n (X ^ (e / 2 ^ 0))) (o := ⟨none, _, _, _, _, _⟩) ?_ (.tmp 6) (.tmp 32) ?_ ?_ ?_ hv2.out ?_); rfl; rfl; rfl; rfl; intro w6 hv6 ho6))
      exact retE rfl rfl hv6 rfl ⟨by rw [Nat.pow_zero, Nat.div_one], Only.below (Only.below HB5.out Hon.out (by have := Hb.out; omega)) ho6.out (by have := Hb.out; omega)⟩
    · obtain ⟨i, rfl⟩ : ∃ i, j = i + 1 := ⟨j - 1, by omega⟩
      rw [show ((i + 1 : Nat) : Int) - 1 = (i : Int) by omega]
      have he := hide (exp_round X e i)
      generalize X ^ (e / 2 ^ (i + 1)) = Y at *
      have hFr := hide (HF5.out.only Hon.out (by have := Hb.out; omega))
      have hRr := hide (HR5.out.only Hon.out (by have := Hb.out; omega))
      have hV1 := hide (Hon.out.vb Hv15.out (by have := Hb.out; omega))
      go_upto_region 6 with (first
        | ((with_reducible refine loadE (o := ⟨some 21, _, _, _, _, _⟩) ?_ (.tmp 7) ?_ ?_ Hvr.out ?_); rfl; rfl; rfl)
        | ((with_reducible refine loadE (o := ⟨some 22, _, _, _, _, _⟩) ?_ (.tmp 7) ?_ ?_ Hvr.out ?_); rfl; rfl; rfl)
        | (go_at_call 70; refine (mmul_c bm P n Y Y wr hFr.out hI.out).mono ?_; rintro e6 w6 ⟨rfl, hb6⟩; replace hb6 := hide hb6)
        | ((with_reducible refine storeE (v' := mf P n (Y * Y)) (o := ⟨none, _, _, _, _, _⟩) ?_ (.tmp 7) (.tmp 23) ?_ ?_ ?_ (Hvr.out.next hb6.out) ?_); rfl; rfl; rfl; rfl; intro w7 hv7 ho7))
      have hO7 := hide ((Hon.out.trans (Only.of_below hb6.out)).trans ho7.out)
      have hF7 := hide ((hFr.out.next hb6.out).only ho7.out (by have := Hb.out; omega))
      have hR7 := hide ((hRr.out.next hb6.out).only ho7.out (by have := Hb.out; omega))
      have hV7 := hide (ho7.out.vb (hV1.out.next hb6.out) (by have := Hb.out; omega))
      have hv7 := hide hv7
      have hbit := Hbit.out w7 i hR7.out.rd (by have := Hbl.out; unfold lim; omega)
      clear hFr hRr hV1 Hon Hvr ho7 hb6 Hbit
      have iw := wrap_in ((i : Int) - 1) (by omega) (by have := Hbl.out; omega)
      have hm := Nat.mod_two_eq_zero_or_one (e / 2 ^ i)
      rcases hm with hm | hm
      · rw [hm] at hbit he
        have hbit := hide hbit
        go_wp2_with (go_at_call 111; refine hbit.out.mono ?_; rintro e8 w8 ⟨rfl, hb8⟩; replace hb8 := hide hb8)
        exact ⟨⟨i, by omega, rfl, hO7.out.trans (Only.of_below hb8.out), by rw [he.out, Nat.pow_zero, Nat.mul_one]; exact hv7.out.next hb8.out⟩, by simp [intOf]⟩
      · rw [hm] at hbit he
        have hbit := hide hbit
        go_wp2_with (first
          | (go_at_call 111; refine hbit.out.mono ?_; rintro e8 w8 ⟨rfl, hb8⟩; replace hb8 := hide hb8)
          | ((with_reducible refine loadE (o := ⟨some 29, _, _, _, _, _⟩) ?_ (.tmp 7) ?_ ?_ (hv7.out.next hb8.out) ?_); rfl; rfl; rfl)
          | ((with_reducible refine loadE (o := ⟨some 30, _, _, _, _, _⟩) ?_ (.tmp 4) ?_ ?_ (hV7.out.next hb8.out) ?_); rfl; rfl; rfl)
          | (go_at_call 70; refine (mmul_c bm P n (Y * Y) X w8 (hF7.out.next hb8.out) hI.out).mono ?_; rintro e9 w9 ⟨rfl, hb9⟩; replace hb9 := hide hb9)
          | ((with_reducible refine storeE (v' := mf P n (Y * Y * X)) (o := ⟨none, _, _, _, _, _⟩) ?_ (.tmp 7) (.tmp 31) ?_ ?_ ?_ ((hv7.out.next hb8.out).next hb9.out) ?_); rfl; rfl; rfl; rfl; intro w10 hv10 ho10))
        exact ⟨⟨i, by omega, rfl, ((hO7.out.trans (Only.of_below hb8.out)).trans (Only.of_below hb9.out)).trans ho10.out, by rw [he.out, Nat.pow_one]; exact hv10⟩, by simp [intOf]⟩

/-- the exponent that inverts. -/
theorem mP_le {P n : Nat} (h : P < B64 ^ n) (hn : n ≤ 6) : P < B64 ^ 6 := Nat.lt_of_lt_of_le h (Nat.pow_le_pow_right B64_pos hn)

theorem digs_short {v : Nat} (h : v < B64 ^ 6) : (digs B64 v).length ≤ 1073741824 := by have := digs_length_le B64_ge h; omega
/-- the prime less a small number. -/
theorem sub_p {w : World} {bm P n b : Nat} {t : TypeId} (hF : FB w bm P n) {k : Nat} (hB : Blk w b t .u64 [k]) (hkB : k < B64) (hk : k ≤ P) :
    Calls Try.prog 122 #[.slice (some ⟨bm, 0, none⟩) 6 6, .slice (some ⟨b, 0, none⟩) 1 1] w (RetSl w .u64 (digs B64 (P - k))) := by
  have hP6 := mP_le hF.lt hF.n6
  have hv : val B64 [k] = k := by simp [val]
  have h := sub_any (some ⟨bm, 0, none⟩) (some ⟨b, 0, none⟩) 6 1 (fix B64 6 P) [k] w (fun _ => ⟨_, _, rfl, hF.rowP⟩) (by rw [fix_length]; exact Nat.le_refl _) (by rw [fix_length]; unfold lim; omega) (fix_ok B64_pos _ _)
    (fun _ => ⟨_, _, rfl, hB.row0⟩) (Nat.le_refl _) (by simp [lim]) (Ok.cons hkB Ok.nil) (by rw [val_fix_of_lt hP6, hv]; exact hk)
  rw [fix_length, val_fix_of_lt hP6, hv] at h
  exact h

set_option maxRecDepth 100000 in
set_option maxHeartbeats 1600000 in
theorem minv_c (bm P n X : Nat) (w : World) (hF : FB w bm P n) (hI : InvOk P) :
    Calls Try.prog 73 #[.pointer (some ⟨bm, 0, none⟩), vE (mf P n X)] w fun e w' => e = .returned (vE (mf P n (X ^ (P - 2)))) ∧ Below w.heap.size w w' := by
  go_enter Try.func73, Try.ntmps73
  have hF := hide hF
  have hI := hide hI
  go_upto_region 1 with (first
    | ((with_reducible refine boxN (o := ⟨some 3, _, _, _, _, _⟩) ?_ (.tmp 1) ?_ (v := mf P n X) ?_ ?_); rfl; rfl; rfl; intro w1 b1 hv1 hn1)
    | ((with_reducible refine allocN (o := ⟨some 4, _, _, _, _, _⟩) ?_ ?_ ?_); rfl; rfl; intro w3 b3 hv3 hn3))
  have hF3 := hide ((hF.out.next hn1.bl).next hn3.bl)
  have hv13 := hide (hv1.next hn3.bl)
  refine region_do 9 14 [fun v _ => v = .pointer (some ⟨bm, 0, none⟩), fun v _ => v = vE (mf P n X), fun v _ => v = .pointer (some ⟨bm, 0, none⟩), fun v _ => v = .pointer (some ⟨bm, 0, none⟩), fun v _ => v = .pointer (some ⟨bm, 0, none⟩), fun v _ => v = .slice (some ⟨bm, 0, none⟩) 6 6, fun v w => ∃ b, v = .slice (some ⟨b, 0, none⟩) 1 1 ∧ Blk w b 22 .u64 [2], fun v w => RetV w .u64 (digs B64 (P - 2)) v, fun v _ => v = vE (mf P n (X ^ (P - 2)))]
    [(0, .pointer (some ⟨bm, 0, none⟩)), (3, .pointer (some ⟨b1, 0, none⟩))] (fun w' => VB w' b1 98 (ve (mf P n X)) ∧ FB w' bm P n) (fun w' => True) 999 none (by kernel_rfl) (by kernel_rfl) rfl rfl
    (.cons (Fact.eq _) rfl (.cons (Fact.eq _) rfl (.cons (Fact.eq _) rfl (.cons (Fact.eq _) rfl (.cons (Fact.eq _) rfl (.cons (Fact.eq _) rfl (.cons (fun v w w' ⟨b, h1, h2⟩ hb => ⟨b, h1, h2.next hb⟩) rfl (.cons (fun v w w' h hb => h.next hb) rfl (.cons (Fact.eq _) rfl (.nil _)))))))))) (fun w' h => ⟨hv13.out.next h, hF3.out.next h⟩) (fun w' h => trivial) (by kernel_rfl) ⟨rfl, rfl, trivial⟩ (.cons ?_ (.cons ?_ (.cons ?_ (.cons ?_ (.cons ?_ (.cons ?_ (.cons ?_ (.cons ?_ (.cons ?_ .nil))))))))) ?_
  · refine Obl.plain rfl _ rfl rfl [] (by kernel_rfl) fun a W hF hC hD K hK => ?_
    have e0 : a.tmps.getD 0 undef = .pointer (some ⟨bm, 0, none⟩) := hF.1
    clear hF hD hC
    go_simp
    exact hK _ _ rfl (Below.refl _ _)
  · refine Obl.plain rfl _ rfl rfl [] (by kernel_rfl) fun a W hF hC hD K hK => ?_
    obtain ⟨c1, c2⟩ := hC
    have e3 : a.tmps.getD 3 undef = .pointer (some ⟨b1, 0, none⟩) := hF.2.1
    clear hF hD
    exact wpE _ (.tmp 3) rfl c1 e3 Try.underlying98 rfl Try.sz98 (hK _ _ rfl (Below.refl _ _))
  · refine Obl.plain rfl _ rfl rfl [] (by kernel_rfl) fun a W hF hC hD K hK => ?_
    have e0 : a.tmps.getD 0 undef = .pointer (some ⟨bm, 0, none⟩) := hF.1
    clear hF hD hC
    go_simp
    exact hK _ _ rfl (Below.refl _ _)
  · refine Obl.plain rfl _ rfl rfl [2] (by kernel_rfl) fun a W hF hC hD K hK => ?_
    have e7 : a.tmps.getD 7 undef = .pointer (some ⟨bm, 0, none⟩) := hD.1
    clear hF hD hC
    go_simp
    exact hK _ _ rfl (Below.refl _ _)
  · refine Obl.plain rfl _ rfl rfl [3] (by kernel_rfl) fun a W hF hC hD K hK => ?_
    have e8 : a.tmps.getD 8 undef = .pointer (some ⟨bm, 0, none⟩) := hD.1
    clear hF hD hC
    go_simp
    exact hK _ _ rfl (Below.refl _ _)
  · refine Obl.plain rfl _ rfl rfl [4] (by kernel_rfl) fun a W hF hC hD K hK => ?_
    have e9 : a.tmps.getD 9 undef = .pointer (some ⟨bm, 0, none⟩) := hD.1
    clear hF hD hC
    go_simp
    exact hK _ _ rfl (Below.refl _ _)
  · refine Obl.plain rfl _ rfl rfl [] (by kernel_rfl) fun a W hF hC hD K hK => ?_
    clear hF hD hC
    go_simp
    exact hK _ _ ⟨_, rfl, Blk.new W .u64 _ [2]⟩ (below_alloc (Below.refl _ _) _)
  · refine Obl.plain rfl _ rfl rfl [5, 6] (by kernel_rfl) fun a W hF hC hD K hK => ?_
    obtain ⟨c1, c2⟩ := hC
    have e10 : a.tmps.getD 10 undef = .slice (some ⟨bm, 0, none⟩) 6 6 := hD.1
    have e11 : (fun (v : Value) (w : World) => ∃ b, v = .slice (some ⟨b, 0, none⟩) 1 1 ∧ Blk w b 22 .u64 [2]) (a.tmps.getD 11 undef) W := hD.2.1
    clear hF hD
    obtain ⟨b2, h2, hB2⟩ := e11
    go_simp
    refine (sub_p c2 hB2 (by decide) c2.gt).mono ?_
    rintro e W' ⟨A, c, rfl, hc, hr, hb⟩
    exact hK _ _ ⟨A, c, rfl, hc, hr⟩ hb
  · refine Obl.plain rfl _ rfl rfl [0, 1, 7, 7] (by kernel_rfl) fun a W hF hC hD K hK => ?_
    obtain ⟨c1, c2⟩ := hC
    have e5 : a.tmps.getD 5 undef = .pointer (some ⟨bm, 0, none⟩) := hD.1
    have e6 : a.tmps.getD 6 undef = vE (mf P n X) := hD.2.1
    have e12 : (fun (v : Value) (w : World) => RetV w .u64 (digs B64 (P - 2)) v) (a.tmps.getD 12 undef) W := hD.2.2.1
    clear hF hD
    obtain ⟨A, c, h2, hc, hr⟩ := e12
    go_simp
    have h := mexp_c bm P n X A c (digs B64 (P - 2)) W c2 hI.out hr hc (digs_short (by have := mP_le c2.lt c2.n6; omega)) (digs_ok B64_ge _)
    rw [val_digs B64_ge] at h
    refine h.mono ?_
    rintro e W' ⟨rfl, hb⟩
    exact hK _ _ rfl hb
  rintro w4 hB4 hC4 _ rfl _ rfl _ rfl _ rfl _ rfl _ rfl v11 g11 v12 g12 _ rfl
  change Below _ _ _ at hB4
  change wpList _ _ _ _ _ _
  simp only [List.drop_succ_cons, List.drop_zero, Act.put, List.setIfInBounds_toArray, List.set_cons_zero, List.set_cons_succ]
  have hb4 := hide hB4
  clear hB4 hC4
  go_wp2_with ((with_reducible refine storeE (v' := mf P n (X ^ (P - 2))) (o := ⟨none, _, _, _, _, _⟩) ?_ (.tmp 4) (.tmp 13) ?_ ?_ ?_ (hv3.next hb4.out) ?_); rfl; rfl; rfl; rfl; intro w6 hv6 ho6)
  exact retE rfl rfl hv6 rfl ⟨rfl, Only.below (below_next (below_next hn1.bl hn3.bl) hb4.out) ho6.out (by have := hn1.sz; have := hn3.lo; omega)⟩
end Go.Proofs.Ytincemkjdgbnnaa
