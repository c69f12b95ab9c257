/- Walks: package mont: Square, To, From. -/
import Derived.Test.YtincemkjdgbnnaaMul
import Derived.Test.YtincemkjdgbnnaaSched
set_option linter.unusedVariables false
set_option linter.unusedSimpArgs false
namespace Go.Proofs.Ytincemkjdgbnnaa
open Go.RowKit Lm

theorem Try.sz98 : (Try.prog.info? 98).map (·.size) = some 6 := by kernel_rfl
theorem Try.sz23 : (Try.prog.info? 23).map (·.size) = some 6 := by kernel_rfl
theorem Try.sz24 : (Try.prog.info? 24).map (·.size) = some 6 := by kernel_rfl
theorem Try.zr98 : (Try.prog.info? 98).map (·.zero) = some (some (.agg (ve 0).toArray)) := by kernel_rfl
theorem Try.zr23 : (Try.prog.info? 23).map (·.zero) = some (some (.agg (ve 0).toArray)) := by kernel_rfl
theorem Try.zr24 : (Try.prog.info? 24).map (·.zero) = some (some (.agg (ve 0).toArray)) := by kernel_rfl

section
variable {ops : Array Oper} {rest : List Oper} {o : Oper} {a : Act} {w : World} {Q : Exit → Act → World → Prop} {K : Act → World → Prop}
/-- six numbers in a block of their own are read: an operation. -/
theorem wpE (ty : TypeId) (x : Operand) (ho : o.op = .load ty x) {b v : Nat} {t : TypeId} (hv : VB w b t (ve v)) (hx : a.eval x = .pointer (some ⟨b, 0, none⟩)) {d : TypeDesc} (hu : Try.prog.underlying ty = some d) (hd : d.isRow = true)
    (hi : (Try.prog.info? ty).map (·.size) = some 6) (h : K (a.put o.dst (vE v)) w) : o.wp Try.prog a w K Q :=
  wp_load_mid ty x ho b 0 hx (ve v) d (fun j v hj => by rw [Nat.zero_add, hv.cell, hj]) hu hd (by rw [ve_length]; exact hi) h
/-- six numbers are written into a block of their own: an operation. -/
theorem wpSt (ty : TypeId) (x y : Operand) (ho : o.op = .store ty x y) {b v v' : Nat} {t : TypeId} (hx : a.eval x = .pointer (some ⟨b, 0, none⟩)) (hy : a.eval y = vE v') (hv : VB w b t (ve v))
    (hi : (Try.prog.info? ty).map (·.size) = some 6) (h : ∀ w', VB w' b t (ve v') → Only w w' b → K (a.put o.dst undef) w') : o.wp Try.prog a w K Q := by
  obtain ⟨w', hrun, hv', ho'⟩ := storeA_run (P := Try.prog) (off := 0) hv (ty := ty) (ve v') (by rw [ve_length]; exact hi) (ve_one v') (by rw [ve_length, ve_length]; exact Nat.le_refl _)
  rw [List.take_zero, List.nil_append, ve_length, Nat.zero_add, ← ve_length v, List.drop_length, List.append_nil] at hv'
  unfold Oper.wp execOp
  simp only [ho, hx, hy, vE, Sem.run_bind, hrun, Result.andThen_ok, Sem.run_pure]
  exact h w' hv' ho'
/-- a part of a field's block is read. -/
theorem wpF (x : Operand) (ho : o.op = .load 98 x) {b P n v : Nat} (hF : FB w b P n) (off : Nat) (hx : a.eval x = .pointer (some ⟨b, off, none⟩)) (hv : ((fcells P n).drop off).take 6 = ve v) (h20 : off + 6 ≤ 20)
    (h : K (a.put o.dst (vE v)) w) : o.wp Try.prog a w K Q :=
  wp_load_mid _ x ho b off hx (ve v) _ (fun j u hj => by
    rw [hF.vb.cell]
    rw [← hv, List.getElem?_take] at hj
    split at hj
    · rwa [List.getElem?_drop] at hj
    · cases hj) Try.underlying98 rfl (by rw [ve_length]; exact Try.sz98) h

/-- the same laws for each type of six numbers, in a region without a draw. -/
theorem boxT (ty : TypeId) (hgd : o.guard = none) (x : Operand) (ho : o.op = .box ty x) {v : Nat} (hx : a.eval x = vE v)
    (h : ∀ w' b, VB w' b ty (ve v) → New w w' b → wpList Try.prog ops Q rest (a.put o.dst (.pointer (some ⟨b, 0, none⟩))) w') : wpList Try.prog ops Q (o :: rest) a w :=
  wpList_box hgd _ x ho (ve v) hx fun w' b h1 h2 h3 h4 => h w' b h2 ⟨by rw [h1]; exact Nat.le_refl _, by rw [h4]; omega, h3⟩
theorem allocT (ty : TypeId) (hgd : o.guard = none) (ho : o.op = .alloc ty) (hz : (Try.prog.info? ty).map (·.zero) = some (some (.agg (ve 0).toArray)))
    (h : ∀ w' b, VB w' b ty (ve 0) → New w w' b → wpList Try.prog ops Q rest (a.put o.dst (.pointer (some ⟨b, 0, none⟩))) w') : wpList Try.prog ops Q (o :: rest) a w :=
  wpList_alloc hgd _ ho (ve 0) hz fun w' b h1 h2 h3 h4 => h w' b h2 ⟨by rw [h1]; exact Nat.le_refl _, by rw [h4]; omega, h3⟩
theorem loadT (ty : TypeId) (hgd : o.guard = none) (x : Operand) (ho : o.op = .load ty x) {b v : Nat} {t : TypeId} (hx : a.eval x = .pointer (some ⟨b, 0, none⟩)) (hv : VB w b t (ve v)) {d : TypeDesc} (hu : Try.prog.underlying ty = some d) (hd : d.isRow = true)
    (hi : (Try.prog.info? ty).map (·.size) = some 6) (h : wpList Try.prog ops Q rest (a.put o.dst (vE v)) w) : wpList Try.prog ops Q (o :: rest) a w :=
  wpList_loadW hgd _ x ho hx hv hu hd (by rw [ve_length]; exact hi) h
theorem storeT (ty : TypeId) (hgd : o.guard = none) (x y : Operand) (ho : o.op = .store ty x y) {b v v' : Nat} {t : TypeId} (hx : a.eval x = .pointer (some ⟨b, 0, none⟩)) (hy : a.eval y = vE v') (hv : VB w b t (ve v))
    (hi : (Try.prog.info? ty).map (·.size) = some 6) (h : ∀ w', VB w' b t (ve v') → Hid (Only w w' b) → wpList Try.prog ops Q rest (a.put o.dst undef) w') : wpList Try.prog ops Q (o :: rest) a w :=
  wpList_storeW hgd _ x y ho hx hv (ve v') hy (by rw [ve_length]; exact hi) (ve_one v') (by rw [ve_length, ve_length]) fun w' h1 h2 => h w' h1 (hide h2)
theorem retT (ty : TypeId) {fn : Func} {R : Ending → World → Prop} {p : Tmp} (hr : fn.results = #[.cell p ty]) {b v : Nat} {t : TypeId} (hp : a.tmps.getD p undef = .pointer (some ⟨b, 0, none⟩))
    (hv : VB w b t (ve v)) {d : TypeDesc} (hu : Try.prog.underlying ty = some d) (hd : d.isRow = true) (hi : (Try.prog.info? ty).map (·.size) = some 6) (hdf : a.defers = []) (hR : R (.returned (vE v)) w) : bodyPost Try.prog fn R .ret a w :=
  bodyPost_cell hr hp hv hu (by cases d <;> simp_all [TypeDesc.isRow]) (by rw [ve_length]; exact hi) hdf hR
end

/-- a number X in Montgomery's form; Montgomery's product; what stands for R in that form. -/
def mf (P n X : Nat) : Nat := X * B64 ^ n % P
def mm (P n x y : Nat) : Nat := x * y * rinv P n % P
def sqv (P n : Nat) : Nat := B64 ^ (2 * n) % P
/-- what is missing to 0. -/
def ng (P Y : Nat) : Nat := P - Y % P
section
variable {P n : Nat}
theorem mf_lt (hP : 0 < P) (X : Nat) : mf P n X < P := Nat.mod_lt _ hP
theorem mm_lt (hP : 0 < P) (x y : Nat) : mm P n x y < P := Nat.mod_lt _ hP
theorem sqv_lt (hP : 0 < P) : sqv P n < P := Nat.mod_lt _ hP
theorem rinv_cancel (h : InvOk P) (x : Nat) : x * (B64 ^ n * rinv P n) % P = x % P := binv_pow h n x
theorem mm_mf (h : InvOk P) (X Y : Nat) : mm P n (mf P n X) (mf P n Y) = mf P n (X * Y) := by
  unfold mm mf
  rw [Nat.mul_assoc, modmul, Nat.mul_left_comm, modmul]
  rw [show Y * B64 ^ n * (X * B64 ^ n * rinv P n) = (X * Y * B64 ^ n) * (B64 ^ n * rinv P n) by simp only [Nat.mul_assoc, Nat.mul_comm, Nat.mul_left_comm], rinv_cancel h]
theorem ma_mf (X Y : Nat) : (mf P n X + mf P n Y) % P = mf P n (X + Y) := by
  unfold mf; rw [← Nat.add_mod, Nat.add_mul]
theorem mg_mf (hP : 0 < P) (Y : Nat) : (P - mf P n Y) % P = mf P n (ng P Y) := by
  have h1 := mf_lt (n := n) hP Y
  have h2 : (mf P n Y + mf P n (ng P Y)) % P = 0 := by
    rw [ma_mf]; unfold mf ng
    rw [← modmul, show (Y + (P - Y % P)) % P = 0 by
      have := Nat.mod_lt Y hP
      rw [← Nat.mod_add_mod, show Y % P + (P - Y % P) = P by omega, Nat.mod_self], Nat.zero_mul, Nat.zero_mod]
  have h3 := mf_lt (n := n) hP (ng P Y)
  generalize mf P n Y = y at *
  generalize mf P n (ng P Y) = z at *
  rcases Nat.eq_zero_or_pos (y + z) with h | h
  · rw [show y = 0 by omega, show z = 0 by omega, Nat.sub_zero, Nat.mod_self]
  · have : y + z = P := by
      rcases Nat.lt_or_ge (y + z) P with h4 | h4
      · rw [Nat.mod_eq_of_lt h4] at h2; omega
      · rw [Nat.mod_eq_sub_mod h4, Nat.mod_eq_of_lt (by omega)] at h2; omega
    rw [show P - y = z by omega, Nat.mod_eq_of_lt h3]
theorem ms_mf (hP : 0 < P) (X Y : Nat) : (mf P n X + P - mf P n Y) % P = mf P n (X + ng P Y) := by
  have h1 := mf_lt (n := n) hP Y
  rw [← ma_mf, ← mg_mf hP, Nat.add_mod_mod]
  congr 1; omega
theorem mf_one : mf P n 1 = B64 ^ n % P := by unfold mf; rw [Nat.one_mul]
theorem mm_sqv (h : InvOk P) (x : Nat) : mm P n x (sqv P n) = mf P n x := by
  unfold mm mf sqv
  rw [Nat.mul_assoc, Nat.mul_left_comm, modmul, Nat.two_mul, Nat.pow_add,
    show B64 ^ n * B64 ^ n * (x * rinv P n) = (x * B64 ^ n) * (B64 ^ n * rinv P n) by simp only [Nat.mul_assoc, Nat.mul_comm, Nat.mul_left_comm], rinv_cancel h]
theorem mm_one (h : InvOk P) (X : Nat) : mm P n (mf P n X) 1 = X % P := by
  unfold mm mf
  rw [Nat.mul_one, modmul, Nat.mul_assoc, rinv_cancel h]
theorem mf_mod (X : Nat) : mf P n (X % P) = mf P n X := by unfold mf; rw [modmul]
theorem mf_zero : mf P n 0 = 0 := by unfold mf; rw [Nat.zero_mul, Nat.zero_mod]
theorem mf_inj (h : InvOk P) {X Y : Nat} : mf P n X = mf P n Y ↔ X % P = Y % P := by
  constructor
  · intro e; rw [← mm_one (n := n) h X, ← mm_one (n := n) h Y, e]
  · intro e; rw [← mf_mod X, ← mf_mod Y, e]
end

theorem mmul_r (bm P n x y : Nat) (w : World) (hF : FB w bm P n) (hI : InvOk P) (hx : x < P) (hy : y < P) :
    Calls Try.prog 70 #[.pointer (some ⟨bm, 0, none⟩), vE x, vE y] w fun e w' => e = .returned (vE (mm P n x y)) ∧ Below w.heap.size w w' := mmul_any bm P n x y w hF hI hx hy
/-- in Montgomery's form. -/
theorem mmul_c (bm P n X Y : Nat) (w : World) (hF : FB w bm P n) (hI : InvOk P) :
    Calls Try.prog 70 #[.pointer (some ⟨bm, 0, none⟩), vE (mf P n X), vE (mf P n Y)] w fun e w' => e = .returned (vE (mf P n (X * Y))) ∧ Below w.heap.size w w' := by
  have hP : 0 < P := by have := hF.gt; omega
  have h := mmul_r bm P n (mf P n X) (mf P n Y) w hF hI (mf_lt hP X) (mf_lt hP Y)
  rwa [mm_mf hI] at h
theorem madd_c (bm P n X Y : Nat) (w : World) (hF : FB w bm P n) :
    Calls Try.prog 75 #[.pointer (some ⟨bm, 0, none⟩), vE (mf P n X), vE (mf P n Y)] w fun e w' => e = .returned (vE (mf P n (X + Y))) ∧ Below w.heap.size w w' := by
  have hP : 0 < P := by have := hF.gt; omega
  have h := madd_any bm P n (mf P n X) (mf P n Y) w hF (mf_lt hP X) (mf_lt hP Y)
  rwa [ma_mf] at h
theorem msub_c (bm P n X Y : Nat) (w : World) (hF : FB w bm P n) :
    Calls Try.prog 77 #[.pointer (some ⟨bm, 0, none⟩), vE (mf P n X), vE (mf P n Y)] w fun e w' => e = .returned (vE (mf P n (X + ng P Y))) ∧ Below w.heap.size w w' := by
  have hP : 0 < P := by have := hF.gt; omega
  have h := msub_any bm P n (mf P n X) (mf P n Y) w hF (mf_lt hP X) (mf_lt hP Y)
  rwa [ms_mf hP] at h
theorem mneg_c (bm P n Y : Nat) (w : World) (hF : FB w bm P n) :
    Calls Try.prog 135 #[.pointer (some ⟨bm, 0, none⟩), vE (mf P n Y)] w fun e w' => e = .returned (vE (mf P n (ng P Y))) ∧ Below w.heap.size w w' := by
  have hP : 0 < P := by have := hF.gt; omega
  have h := mneg_any bm P n (mf P n Y) w hF (mf_lt hP Y)
  rwa [mg_mf hP] at h
theorem mone_c (bm P n : Nat) (w : World) (hF : FB w bm P n) :
    Calls Try.prog 144 #[.pointer (some ⟨bm, 0, none⟩)] w fun e w' => e = .returned (vE (mf P n 1)) ∧ Below w.heap.size w w' := by
  rw [mf_one]; exact mone_any bm P n w hF
theorem part_one' (P n : Nat) : ((fcells P n).drop 8).take 6 = ve (mf P n 1) := by rw [mf_one]; rfl
theorem part_sq' (P n : Nat) : ((fcells P n).drop 14).take 6 = ve (sqv P n) := rfl

set_option maxRecDepth 100000 in
theorem msquare_c (bm P n X : Nat) (w : World) (hF : FB w bm P n) (hI : InvOk P) :
    Calls Try.prog 127 #[.pointer (some ⟨bm, 0, none⟩), vE (mf P n X)] w fun e w' => e = .returned (vE (mf P n (X * X))) ∧ Below w.heap.size w w' := by
  go_enter Try.func127, Try.ntmps127
  have hF := hide hF
  have hI := hide hI
  go_wp2_with (first
    | ((with_reducible refine boxN (o := ⟨some 3, _, _, _, _, _⟩) ?_ (.tmp 1) ?_ (v := mf P n X) ?_ ?_); rfl; rfl; rfl; intro w1 b1 hv1 hn1)
    | ((with_reducible refine allocN (o := ⟨some 4, _, _, _, _, _⟩) ?_ ?_ ?_); rfl; rfl; intro w3 b3 hv3 hn3)
    | ((with_reducible refine loadE (o := ⟨some 6, _, _, _, _, _⟩) ?_ (.tmp 3) ?_ ?_ (hv1.next hn3.bl) ?_); rfl; rfl; rfl)
    | ((with_reducible refine loadE (o := ⟨some 7, _, _, _, _, _⟩) ?_ (.tmp 3) ?_ ?_ (hv1.next hn3.bl) ?_); rfl; rfl; rfl)
    | (go_at_call 70; refine (mmul_c bm P n X X w3 ((hF.out.next hn1.bl).next hn3.bl) hI.out).mono ?_; rintro e w4 ⟨rfl, hb4⟩; replace hb4 := hide hb4)
    | ((with_reducible refine storeE (v' := mf P n (X * X)) (o := ⟨none, _, _, _, _, _⟩) ?_ (.tmp 4) (.tmp 8) ?_ ?_ ?_ (hv3.next hb4.out) ?_); rfl; rfl; rfl; rfl; intro w6 hv6 ho6))
  exact retE rfl rfl hv6 rfl ⟨rfl, Only.below (below_next (below_next hn1.bl hn3.bl) hb4.out) ho6.out (by have := hn1.sz; have := hn3.lo; omega)⟩

set_option maxRecDepth 100000 in
theorem mto_c (bm P n x : Nat) (w : World) (hF : FB w bm P n) (hI : InvOk P) (hx : x < P) :
    Calls Try.prog 112 #[.pointer (some ⟨bm, 0, none⟩), vE x] w fun e w' => e = .returned (vE (mf P n x)) ∧ Below w.heap.size w w' := by
  go_enter Try.func112, Try.ntmps112
  have hF := hide hF
  have hI := hide hI
  go_upto_region 1 with (first
    | ((with_reducible refine boxT 23 (o := ⟨some 3, _, _, _, _, _⟩) ?_ (.tmp 1) ?_ (v := x) ?_ ?_); rfl; rfl; rfl; intro w1 b1 hv1 hn1)
    | ((with_reducible refine allocN (o := ⟨some 4, _, _, _, _, _⟩) ?_ ?_ ?_); rfl; rfl; intro w3 b3 hv3 hn3))
  have hF3 := hide ((hF.out.next hn1.bl).next hn3.bl)
  have hv13 := hide (hv1.next hn3.bl)
  refine region_do 7 12 [fun v _ => v = .pointer (some ⟨bm, 0, none⟩), fun v _ => v = vE (x), fun v _ => v = .pointer (some ⟨bm, 0, none⟩), fun v _ => v = .pointer (some ⟨bm, 0, none⟩), fun v _ => v = .pointer (some ⟨bm, 14, none⟩), fun v _ => v = vE (sqv P n), fun v _ => v = vE (mm P n x (sqv P n))]
    [(0, .pointer (some ⟨bm, 0, none⟩)), (3, .pointer (some ⟨b1, 0, none⟩))] (fun w' => VB w' b1 23 (ve x) ∧ FB w' bm P n) (fun w' => True) 999 none (by kernel_rfl) (by kernel_rfl) rfl rfl
    (.cons (Fact.eq _) rfl (.cons (Fact.eq _) rfl (.cons (Fact.eq _) rfl (.cons (Fact.eq _) rfl (.cons (Fact.eq _) rfl (.cons (Fact.eq _) rfl (.cons (Fact.eq _) rfl (.nil _)))))))) (fun w' h => ⟨hv13.out.next h, hF3.out.next h⟩) (fun w' h => trivial) (by kernel_rfl) ⟨rfl, rfl, trivial⟩ (.cons ?_ (.cons ?_ (.cons ?_ (.cons ?_ (.cons ?_ (.cons ?_ (.cons ?_ .nil))))))) ?_
  · refine Obl.plain rfl _ rfl rfl [] (by kernel_rfl) fun a W hF hC hD K hK => ?_
    have e0 : a.tmps.getD 0 undef = .pointer (some ⟨bm, 0, none⟩) := hF.1
    clear hF hD hC
    go_simp
    exact hK _ _ rfl (Below.refl _ _)
  · refine Obl.plain rfl _ rfl rfl [] (by kernel_rfl) fun a W hF hC hD K hK => ?_
    obtain ⟨c1, c2⟩ := hC
    have e3 : a.tmps.getD 3 undef = .pointer (some ⟨b1, 0, none⟩) := hF.2.1
    clear hF hD
    exact wpE _ (.tmp 3) rfl c1 e3 Try.underlying23 rfl Try.sz23 (hK _ _ rfl (Below.refl _ _))
  · refine Obl.plain rfl _ rfl rfl [] (by kernel_rfl) fun a W hF hC hD K hK => ?_
    have e0 : a.tmps.getD 0 undef = .pointer (some ⟨bm, 0, none⟩) := hF.1
    clear hF hD hC
    go_simp
    exact hK _ _ rfl (Below.refl _ _)
  · refine Obl.plain rfl _ rfl rfl [2] (by kernel_rfl) fun a W hF hC hD K hK => ?_
    have e7 : a.tmps.getD 7 undef = .pointer (some ⟨bm, 0, none⟩) := hD.1
    clear hF hD hC
    go_simp
    exact hK _ _ rfl (Below.refl _ _)
  · refine Obl.plain rfl _ rfl rfl [3] (by kernel_rfl) fun a W hF hC hD K hK => ?_
    have e8 : a.tmps.getD 8 undef = .pointer (some ⟨bm, 0, none⟩) := hD.1
    clear hF hD hC
    go_simp
    exact hK _ _ rfl (Below.refl _ _)
  · refine Obl.plain rfl _ rfl rfl [4] (by kernel_rfl) fun a W hF hC hD K hK => ?_
    obtain ⟨c1, c2⟩ := hC
    have e9 : a.tmps.getD 9 undef = .pointer (some ⟨bm, 14, none⟩) := hD.1
    clear hF hD
    exact wpF (.tmp 9) rfl c2 14 e9 (part_sq' P n) (by decide) (hK _ _ rfl (Below.refl _ _))
  · refine Obl.plain rfl _ rfl rfl [0, 1, 5] (by kernel_rfl) fun a W hF hC hD K hK => ?_
    obtain ⟨c1, c2⟩ := hC
    have e5 : a.tmps.getD 5 undef = .pointer (some ⟨bm, 0, none⟩) := hD.1
    have e6 : a.tmps.getD 6 undef = vE (x) := hD.2.1
    have e10 : a.tmps.getD 10 undef = vE (sqv P n) := hD.2.2.1
    clear hF hD
    go_simp
    refine (mmul_r bm P n x (sqv P n) W c2 hI.out hx (sqv_lt (by omega))).mono ?_
    rintro e W' ⟨rfl, hb⟩
    exact hK _ _ rfl hb
  rintro w4 hB4 hC4 _ rfl _ rfl _ rfl _ rfl _ rfl _ rfl _ rfl
  change Below _ _ _ at hB4
  change wpList _ _ _ _ _ _
  simp only [List.drop_succ_cons, List.drop_zero, Act.put, List.setIfInBounds_toArray, List.set_cons_zero, List.set_cons_succ]
  have hb4 := hide hB4
  clear hB4 hC4
  go_wp2_with ((with_reducible refine storeE (v' := mm P n x (sqv P n)) (o := ⟨none, _, _, _, _, _⟩) ?_ (.tmp 4) (.tmp 11) ?_ ?_ ?_ (hv3.next hb4.out) ?_); rfl; rfl; rfl; rfl; intro w6 hv6 ho6)
  exact retE rfl rfl hv6 rfl ⟨congrArg (fun z => Ending.returned (vE z)) (mm_sqv hI.out x), Only.below (below_next (below_next hn1.bl hn3.bl) hb4.out) ho6.out (by have := hn1.sz; have := hn3.lo; omega)⟩

set_option maxRecDepth 100000 in
theorem mfrom_c (bm P n X : Nat) (w : World) (hF : FB w bm P n) (hI : InvOk P) :
    Calls Try.prog 109 #[.pointer (some ⟨bm, 0, none⟩), vE (mf P n X)] w fun e w' => e = .returned (vE (X % P)) ∧ Below w.heap.size w w' := by
  go_enter Try.func109, Try.ntmps109
  have hF := hide hF
  have hI := hide hI
  go_wp2_with (first
    | ((with_reducible refine boxN (o := ⟨some 3, _, _, _, _, _⟩) ?_ (.tmp 1) ?_ (v := mf P n X) ?_ ?_); rfl; rfl; rfl; intro w1 b1 hv1 hn1)
    | ((with_reducible refine allocT 23 (o := ⟨some 4, _, _, _, _, _⟩) ?_ ?_ Try.zr23 ?_); rfl; rfl; intro w3 b3 hv3 hn3)
    | ((with_reducible refine loadE (o := ⟨some 6, _, _, _, _, _⟩) ?_ (.tmp 3) ?_ ?_ (hv1.next hn3.bl) ?_); rfl; rfl; rfl)
    | (go_at_call 70; refine (mmul_r bm P n (mf P n X) 1 w3 ((hF.out.next hn1.bl).next hn3.bl) hI.out (mf_lt (by have := hF.out.gt; omega) X) hF.out.gt).mono ?_; rintro e w4 ⟨rfl, hb4⟩; replace hb4 := hide hb4)
    | ((with_reducible refine storeT 23 (v' := mm P n (mf P n X) 1) (o := ⟨none, _, _, _, _, _⟩) ?_ (.tmp 4) (.tmp 8) ?_ ?_ ?_ (hv3.next hb4.out) Try.sz23 ?_); rfl; rfl; rfl; rfl; intro w6 hv6 ho6))
  exact retT 23 rfl rfl hv6 Try.underlying23 rfl Try.sz23 rfl ⟨congrArg (fun z => Ending.returned (vE z)) (mm_one hI.out X), Only.below (below_next (below_next hn1.bl hn3.bl) hb4.out) ho6.out (by have := hn1.sz; have := hn3.lo; omega)⟩
end Go.Proofs.Ytincemkjdgbnnaa
