/- Walks: package field: In, Out, Add, Sub, Neg, Mul, Inv, Exp. -/
import Derived.Test.YtincemkjdgbnnaaFieA
set_option linter.unusedVariables false
set_option linter.unusedSimpArgs false
namespace Go.Proofs.Ytincemkjdgbnnaa
open Go.RowKit Lm

theorem mod_lt6 {x P : Nat} (h0 : 0 < P) (h : P < B64 ^ 6) : x % P < B64 ^ 6 := Nat.lt_trans (Nat.mod_lt x h0) h

set_option maxRecDepth 100000 in
set_option maxHeartbeats 1600000 in
theorem fin_c (b bm P n size x : Nat) (w : World) (hF : FQ w b bm P n size) (hx : x < B64 ^ 6) :
    Calls Try.prog 65 #[.pointer (some ⟨b, 0, none⟩), vE x] w fun e w' => e = .returned (vE (mf P n x)) ∧ Below w.heap.size w w' := by
  go_enter Try.func65, Try.ntmps65
  have hF := hide hF
  have hx := hide hx
  go_upto_region 1 with (first
    | ((with_reducible refine boxT 24 (o := ⟨some 3, _, _, _, _, _⟩) ?_ (.tmp 1) ?_ (v := x) ?_ ?_); rfl; rfl; rfl; intro w1 b1 hv1 hn1)
    | ((with_reducible refine allocN (o := ⟨some 4, _, _, _, _, _⟩) ?_ ?_ ?_); rfl; rfl; intro w2 b2 hv2 hn2))
  have HF := hide ((hF.out.next hn1.bl).next hn2.bl)
  have HB := hide (below_next hn1.bl hn2.bl)
  have Hv1 := hide (hv1.next hn2.bl)
  have Hv2 := hide hv2
  have Hb := hide (Nat.le_trans hn1.bl.size hn2.lo)
  have hP0 := HF.out.pos
  clear hv1 hv2 hn1 hn2 hF
  refine region_do 8 13 [fun v _ => v = .pointer (some ⟨b, 0, none⟩), fun v _ => v = .pointer (some ⟨b, 0, none⟩), fun v _ => v = .pointer (some ⟨b, 0, none⟩), fun v _ => v = .pointer (some ⟨bm, 0, none⟩), fun v _ => v = .pointer (some ⟨b, 0, none⟩), fun v _ => v = vE (x), fun v _ => v = vE (x % P), fun v _ => v = vE (mf P n (x % P))]
    [(0, .pointer (some ⟨b, 0, none⟩)), (3, .pointer (some ⟨b1, 0, none⟩))] (fun w' => FQ w' b bm P n size ∧ VB w' b1 24 (ve x)) (fun w' => True) 999 none (by kernel_rfl) (by kernel_rfl) rfl rfl
    (.cons (Fact.eq _) rfl (.cons (Fact.eq _) rfl (.cons (Fact.eq _) rfl (.cons (Fact.eq _) rfl (.cons (Fact.eq _) rfl (.cons (Fact.eq _) rfl (.cons (Fact.eq _) rfl (.cons (Fact.eq _) rfl (.nil _))))))))) (fun w' h => ⟨HF.out.next h, Hv1.out.next h⟩) (fun w' h => trivial) (by kernel_rfl) ⟨rfl, rfl, trivial⟩ (.cons ?_ (.cons ?_ (.cons ?_ (.cons ?_ (.cons ?_ (.cons ?_ (.cons ?_ (.cons ?_ .nil)))))))) ?_
  · refine Obl.plain rfl _ rfl rfl [] (by kernel_rfl) fun a W hF hC hD K hK => ?_
    have e0 : a.tmps.getD 0 undef = .pointer (some ⟨b, 0, none⟩) := hF.1
    clear hF hD hC
    go_simp
    exact hK _ _ rfl (Below.refl _ _)
  · refine Obl.plain rfl _ rfl rfl [0] (by kernel_rfl) fun a W hF hC hD K hK => ?_
    have e5 : a.tmps.getD 5 undef = .pointer (some ⟨b, 0, none⟩) := hD.1
    clear hF hD hC
    go_simp
    exact hK _ _ rfl (Below.refl _ _)
  · refine Obl.plain rfl _ rfl rfl [1] (by kernel_rfl) fun a W hF hC hD K hK => ?_
    have e6 : a.tmps.getD 6 undef = .pointer (some ⟨b, 0, none⟩) := hD.1
    clear hF hD hC
    go_simp
    exact hK _ _ rfl (Below.refl _ _)
  · refine Obl.plain rfl _ rfl rfl [2] (by kernel_rfl) fun a W hF hC hD K hK => ?_
    obtain ⟨c1, c2⟩ := hC
    have e7 : a.tmps.getD 7 undef = .pointer (some ⟨b, 0, none⟩) := hD.1
    clear hF hD
    have f0 := c1.cellM
    go_simp
    exact hK _ _ rfl (Below.refl _ _)
  · refine Obl.plain rfl _ rfl rfl [] (by kernel_rfl) fun a W hF hC hD K hK => ?_
    have e0 : a.tmps.getD 0 undef = .pointer (some ⟨b, 0, none⟩) := hF.1
    clear hF hD hC
    go_simp
    exact hK _ _ rfl (Below.refl _ _)
  · refine Obl.plain rfl _ rfl rfl [] (by kernel_rfl) fun a W hF hC hD K hK => ?_
    obtain ⟨c1, c2⟩ := hC
    have e3 : a.tmps.getD 3 undef = .pointer (some ⟨b1, 0, none⟩) := hF.2.1
    clear hF hD
    exact wpE _ (.tmp 3) rfl c2 e3 Try.underlying24 rfl Try.sz24 (hK _ _ rfl (Below.refl _ _))
  · refine Obl.plain rfl _ rfl rfl [4, 5] (by kernel_rfl) fun a W hF hC hD K hK => ?_
    obtain ⟨c1, c2⟩ := hC
    have e9 : a.tmps.getD 9 undef = .pointer (some ⟨b, 0, none⟩) := hD.1
    have e10 : a.tmps.getD 10 undef = vE (x) := hD.2.1
    clear hF hD
    go_simp
    refine (freduce_c b bm P n size x W c1 hx.out).mono ?_
    rintro e W' ⟨rfl, hb⟩
    exact hK _ _ rfl hb
  · refine Obl.plain rfl _ rfl rfl [3, 6, 6] (by kernel_rfl) fun a W hF hC hD K hK => ?_
    obtain ⟨c1, c2⟩ := hC
    have e8 : a.tmps.getD 8 undef = .pointer (some ⟨bm, 0, none⟩) := hD.1
    have e11 : a.tmps.getD 11 undef = vE (x % P) := hD.2.1
    clear hF hD
    go_simp
    refine (mto_c bm P n (x % P) W c1.fb c1.inv (Nat.mod_lt x hP0)).mono ?_
    rintro e W' ⟨rfl, hb⟩
    exact hK _ _ rfl hb
  rintro w3 hB3 hC3 _ rfl _ rfl _ rfl _ rfl _ rfl _ rfl _ rfl _ rfl
  change Below _ _ _ at hB3
  change wpList _ _ _ _ _ _
  simp only [List.drop_succ_cons, List.drop_zero, Act.put, List.setIfInBounds_toArray, List.set_cons_zero, List.set_cons_succ]
  rw [mf_mod]
  have hb3 := hide hB3
  clear hB3 hC3
  go_wp2_with ((with_reducible refine storeE (v' := mf P n x) (o := ⟨none, _, _, _, _, _⟩) ?_ (.tmp 4) (.tmp 12) ?_ ?_ ?_ (Hv2.out.next hb3.out) ?_); rfl; rfl; rfl; rfl; intro w6 hv6 ho6)
  exact retE rfl rfl hv6 rfl ⟨rfl, Only.below (below_next HB.out hb3.out) ho6.out Hb.out⟩

set_option maxRecDepth 100000 in
set_option maxHeartbeats 1600000 in
theorem fout_c (b bm P n size X : Nat) (w : World) (hF : FQ w b bm P n size) :
    Calls Try.prog 63 #[.pointer (some ⟨b, 0, none⟩), vE (mf P n X)] w fun e w' => e = .returned (vE (X % P)) ∧ Below w.heap.size w w' := by
  go_enter Try.func63, Try.ntmps63
  have hF := hide hF
  go_upto_region 1 with (first
    | ((with_reducible refine boxN (o := ⟨some 3, _, _, _, _, _⟩) ?_ (.tmp 1) ?_ (v := mf P n X) ?_ ?_); rfl; rfl; rfl; intro w1 b1 hv1 hn1)
    | ((with_reducible refine allocT 24 (o := ⟨some 4, _, _, _, _, _⟩) ?_ ?_ Try.zr24 ?_); rfl; rfl; intro w2 b2 hv2 hn2))
  have HF := hide ((hF.out.next hn1.bl).next hn2.bl)
  have HB := hide (below_next hn1.bl hn2.bl)
  have Hv1 := hide (hv1.next hn2.bl)
  have Hv2 := hide hv2
  have Hb := hide (Nat.le_trans hn1.bl.size hn2.lo)
  have hP0 := HF.out.pos
  clear hv1 hv2 hn1 hn2 hF
  refine region_do 6 11 [fun v _ => v = .pointer (some ⟨b, 0, none⟩), fun v _ => v = .pointer (some ⟨b, 0, none⟩), fun v _ => v = .pointer (some ⟨b, 0, none⟩), fun v _ => v = .pointer (some ⟨bm, 0, none⟩), fun v _ => v = vE (mf P n X), fun v _ => v = vE (X % P)]
    [(0, .pointer (some ⟨b, 0, none⟩)), (3, .pointer (some ⟨b1, 0, none⟩))] (fun w' => FQ w' b bm P n size ∧ VB w' b1 98 (ve (mf P n X))) (fun w' => True) 999 none (by kernel_rfl) (by kernel_rfl) rfl rfl
    (.cons (Fact.eq _) rfl (.cons (Fact.eq _) rfl (.cons (Fact.eq _) rfl (.cons (Fact.eq _) rfl (.cons (Fact.eq _) rfl (.cons (Fact.eq _) rfl (.nil _))))))) (fun w' h => ⟨HF.out.next h, Hv1.out.next h⟩) (fun w' h => trivial) (by kernel_rfl) ⟨rfl, rfl, trivial⟩ (.cons ?_ (.cons ?_ (.cons ?_ (.cons ?_ (.cons ?_ (.cons ?_ .nil)))))) ?_
  · refine Obl.plain rfl _ rfl rfl [] (by kernel_rfl) fun a W hF hC hD K hK => ?_
    have e0 : a.tmps.getD 0 undef = .pointer (some ⟨b, 0, none⟩) := hF.1
    clear hF hD hC
    go_simp
    exact hK _ _ rfl (Below.refl _ _)
  · refine Obl.plain rfl _ rfl rfl [0] (by kernel_rfl) fun a W hF hC hD K hK => ?_
    have e5 : a.tmps.getD 5 undef = .pointer (some ⟨b, 0, none⟩) := hD.1
    clear hF hD hC
    go_simp
    exact hK _ _ rfl (Below.refl _ _)
  · refine Obl.plain rfl _ rfl rfl [1] (by kernel_rfl) fun a W hF hC hD K hK => ?_
    have e6 : a.tmps.getD 6 undef = .pointer (some ⟨b, 0, none⟩) := hD.1
    clear hF hD hC
    go_simp
    exact hK _ _ rfl (Below.refl _ _)
  · refine Obl.plain rfl _ rfl rfl [2] (by kernel_rfl) fun a W hF hC hD K hK => ?_
    obtain ⟨c1, c2⟩ := hC
    have e7 : a.tmps.getD 7 undef = .pointer (some ⟨b, 0, none⟩) := hD.1
    clear hF hD
    have f0 := c1.cellM
    go_simp
    exact hK _ _ rfl (Below.refl _ _)
  · refine Obl.plain rfl _ rfl rfl [] (by kernel_rfl) fun a W hF hC hD K hK => ?_
    obtain ⟨c1, c2⟩ := hC
    have e3 : a.tmps.getD 3 undef = .pointer (some ⟨b1, 0, none⟩) := hF.2.1
    clear hF hD
    exact wpE _ (.tmp 3) rfl c2 e3 Try.underlying98 rfl Try.sz98 (hK _ _ rfl (Below.refl _ _))
  · refine Obl.plain rfl _ rfl rfl [3, 4] (by kernel_rfl) fun a W hF hC hD K hK => ?_
    obtain ⟨c1, c2⟩ := hC
    have e8 : a.tmps.getD 8 undef = .pointer (some ⟨bm, 0, none⟩) := hD.1
    have e9 : a.tmps.getD 9 undef = vE (mf P n X) := hD.2.1
    clear hF hD
    go_simp
    refine (mfrom_c bm P n X W c1.fb c1.inv).mono ?_
    rintro e W' ⟨rfl, hb⟩
    exact hK _ _ rfl hb
  rintro w3 hB3 hC3 _ rfl _ rfl _ rfl _ rfl _ rfl _ rfl
  change Below _ _ _ at hB3
  change wpList _ _ _ _ _ _
  simp only [List.drop_succ_cons, List.drop_zero, Act.put, List.setIfInBounds_toArray, List.set_cons_zero, List.set_cons_succ]
  have hb3 := hide hB3
  clear hB3 hC3
  go_wp2_with ((with_reducible refine storeT 24 (v' := X % P) (o := ⟨none, _, _, _, _, _⟩) ?_ (.tmp 4) (.tmp 10) ?_ ?_ ?_ (Hv2.out.next hb3.out) Try.sz24 ?_); rfl; rfl; rfl; rfl; intro w6 hv6 ho6)
  exact retT 24 rfl rfl hv6 Try.underlying24 rfl Try.sz24 rfl ⟨rfl, Only.below (below_next HB.out hb3.out) ho6.out Hb.out⟩

theorem fadd_m (bm P n x y : Nat) (w : World) (hF : FB w bm P n) :
    Calls Try.prog 75 #[.pointer (some ⟨bm, 0, none⟩), vE (x % P), vE (y % P)] w fun e w' => e = .returned (vE ((x + y) % P)) ∧ Below w.heap.size w w' := by
  have hP : 0 < P := by have := hF.gt; omega
  have h := madd_any bm P n (x % P) (y % P) w hF (Nat.mod_lt x hP) (Nat.mod_lt y hP)
  rw [← Nat.add_mod] at h; exact h

set_option maxRecDepth 100000 in
set_option maxHeartbeats 1600000 in
theorem fadd_c (b bm P n size x y : Nat) (w : World) (hF : FQ w b bm P n size) (hx : x < B64 ^ 6) (hy : y < B64 ^ 6) :
    Calls Try.prog 32 #[.pointer (some ⟨b, 0, none⟩), vE x, vE y] w fun e w' => e = .returned (vE ((x + y) % P)) ∧ Below w.heap.size w w' := by
  go_enter Try.func32, Try.ntmps32
  have hF := hide hF
  have hx := hide hx
  have hy := hide hy
  go_upto_region 1 with (first
    | ((with_reducible refine boxT 24 (o := ⟨some 4, _, _, _, _, _⟩) ?_ (.tmp 1) ?_ (v := x) ?_ ?_); rfl; rfl; rfl; intro w1 b1 hv1 hn1)
    | ((with_reducible refine boxT 24 (o := ⟨some 5, _, _, _, _, _⟩) ?_ (.tmp 2) ?_ (v := y) ?_ ?_); rfl; rfl; rfl; intro w2 b2 hv2 hn2)
    | ((with_reducible refine allocT 24 (o := ⟨some 6, _, _, _, _, _⟩) ?_ ?_ Try.zr24 ?_); rfl; rfl; intro w3 b3 hv3 hn3))
  have HF := hide (((hF.out.next hn1.bl).next hn2.bl).next hn3.bl)
  have HB := hide (below_next (below_next hn1.bl hn2.bl) hn3.bl)
  have Hv1 := hide ((hv1.next hn2.bl).next hn3.bl)
  have Hv2 := hide (hv2.next hn3.bl)
  have Hv3 := hide hv3
  have Hb := hide (Nat.le_trans (Nat.le_trans hn1.bl.size hn2.bl.size) hn3.lo)
  have hP0 := HF.out.pos
  clear hv1 hv2 hv3 hn1 hn2 hn3 hF
  refine region_do 11 18 [fun v _ => v = .pointer (some ⟨b, 0, none⟩), fun v _ => v = .pointer (some ⟨b, 0, none⟩), fun v _ => v = .pointer (some ⟨b, 0, none⟩), fun v _ => v = .pointer (some ⟨bm, 0, none⟩), fun v _ => v = .pointer (some ⟨b, 0, none⟩), fun v _ => v = vE (x), fun v _ => v = vE (x % P), fun v _ => v = .pointer (some ⟨b, 0, none⟩), fun v _ => v = vE (y), fun v _ => v = vE (y % P), fun v _ => v = vE ((x + y) % P)]
    [(0, .pointer (some ⟨b, 0, none⟩)), (4, .pointer (some ⟨b1, 0, none⟩)), (5, .pointer (some ⟨b2, 0, none⟩))] (fun w' => FQ w' b bm P n size ∧ VB w' b1 24 (ve x) ∧ VB w' b2 24 (ve y)) (fun w' => True) 999 none (by kernel_rfl) (by kernel_rfl) rfl rfl
    (.cons (Fact.eq _) rfl (.cons (Fact.eq _) rfl (.cons (Fact.eq _) rfl (.cons (Fact.eq _) rfl (.cons (Fact.eq _) rfl (.cons (Fact.eq _) rfl (.cons (Fact.eq _) rfl (.cons (Fact.eq _) rfl (.cons (Fact.eq _) rfl (.cons (Fact.eq _) rfl (.cons (Fact.eq _) rfl (.nil _)))))))))))) (fun w' h => ⟨HF.out.next h, Hv1.out.next h, Hv2.out.next h⟩) (fun w' h => trivial) (by kernel_rfl) ⟨rfl, rfl, rfl, trivial⟩ (.cons ?_ (.cons ?_ (.cons ?_ (.cons ?_ (.cons ?_ (.cons ?_ (.cons ?_ (.cons ?_ (.cons ?_ (.cons ?_ (.cons ?_ .nil))))))))))) ?_
  · refine Obl.plain rfl _ rfl rfl [] (by kernel_rfl) fun a W hF hC hD K hK => ?_
    have e0 : a.tmps.getD 0 undef = .pointer (some ⟨b, 0, none⟩) := hF.1
    clear hF hD hC
    go_simp
    exact hK _ _ rfl (Below.refl _ _)
  · refine Obl.plain rfl _ rfl rfl [0] (by kernel_rfl) fun a W hF hC hD K hK => ?_
    have e7 : a.tmps.getD 7 undef = .pointer (some ⟨b, 0, none⟩) := hD.1
    clear hF hD hC
    go_simp
    exact hK _ _ rfl (Below.refl _ _)
  · refine Obl.plain rfl _ rfl rfl [1] (by kernel_rfl) fun a W hF hC hD K hK => ?_
    have e8 : a.tmps.getD 8 undef = .pointer (some ⟨b, 0, none⟩) := hD.1
    clear hF hD hC
    go_simp
    exact hK _ _ rfl (Below.refl _ _)
  · refine Obl.plain rfl _ rfl rfl [2] (by kernel_rfl) fun a W hF hC hD K hK => ?_
    obtain ⟨c1, c2, c3⟩ := hC
    have e9 : a.tmps.getD 9 undef = .pointer (some ⟨b, 0, none⟩) := hD.1
    clear hF hD
    have f0 := c1.cellM
    go_simp
    exact hK _ _ rfl (Below.refl _ _)
  · refine Obl.plain rfl _ rfl rfl [] (by kernel_rfl) fun a W hF hC hD K hK => ?_
    have e0 : a.tmps.getD 0 undef = .pointer (some ⟨b, 0, none⟩) := hF.1
    clear hF hD hC
    go_simp
    exact hK _ _ rfl (Below.refl _ _)
  · refine Obl.plain rfl _ rfl rfl [] (by kernel_rfl) fun a W hF hC hD K hK => ?_
    obtain ⟨c1, c2, c3⟩ := hC
    have e4 : a.tmps.getD 4 undef = .pointer (some ⟨b1, 0, none⟩) := hF.2.1
    clear hF hD
    exact wpE _ (.tmp 4) rfl c2 e4 Try.underlying24 rfl Try.sz24 (hK _ _ rfl (Below.refl _ _))
  · refine Obl.plain rfl _ rfl rfl [4, 5] (by kernel_rfl) fun a W hF hC hD K hK => ?_
    obtain ⟨c1, c2, c3⟩ := hC
    have e11 : a.tmps.getD 11 undef = .pointer (some ⟨b, 0, none⟩) := hD.1
    have e12 : a.tmps.getD 12 undef = vE (x) := hD.2.1
    clear hF hD
    go_simp
    refine (freduce_c b bm P n size x W c1 hx.out).mono ?_
    rintro e W' ⟨rfl, hb⟩
    exact hK _ _ rfl hb
  · refine Obl.plain rfl _ rfl rfl [] (by kernel_rfl) fun a W hF hC hD K hK => ?_
    have e0 : a.tmps.getD 0 undef = .pointer (some ⟨b, 0, none⟩) := hF.1
    clear hF hD hC
    go_simp
    exact hK _ _ rfl (Below.refl _ _)
  · refine Obl.plain rfl _ rfl rfl [] (by kernel_rfl) fun a W hF hC hD K hK => ?_
    obtain ⟨c1, c2, c3⟩ := hC
    have e5 : a.tmps.getD 5 undef = .pointer (some ⟨b2, 0, none⟩) := hF.2.2.1
    clear hF hD
    exact wpE _ (.tmp 5) rfl c3 e5 Try.underlying24 rfl Try.sz24 (hK _ _ rfl (Below.refl _ _))
  · refine Obl.plain rfl _ rfl rfl [7, 8, 6] (by kernel_rfl) fun a W hF hC hD K hK => ?_
    obtain ⟨c1, c2, c3⟩ := hC
    have e14 : a.tmps.getD 14 undef = .pointer (some ⟨b, 0, none⟩) := hD.1
    have e15 : a.tmps.getD 15 undef = vE (y) := hD.2.1
    clear hF hD
    go_simp
    refine (freduce_c b bm P n size y W c1 hy.out).mono ?_
    rintro e W' ⟨rfl, hb⟩
    exact hK _ _ rfl hb
  · refine Obl.plain rfl _ rfl rfl [3, 6, 9, 9] (by kernel_rfl) fun a W hF hC hD K hK => ?_
    obtain ⟨c1, c2, c3⟩ := hC
    have e10 : a.tmps.getD 10 undef = .pointer (some ⟨bm, 0, none⟩) := hD.1
    have e13 : a.tmps.getD 13 undef = vE (x % P) := hD.2.1
    have e16 : a.tmps.getD 16 undef = vE (y % P) := hD.2.2.1
    clear hF hD
    go_simp
    refine (fadd_m bm P n x y W c1.fb).mono ?_
    rintro e W' ⟨rfl, hb⟩
    exact hK _ _ rfl hb
  rintro w4 hB4 hC4 _ rfl _ rfl _ rfl _ rfl _ rfl _ rfl _ rfl _ rfl _ rfl _ rfl _ rfl
  change Below _ _ _ at hB4
  change wpList _ _ _ _ _ _
  simp only [List.drop_succ_cons, List.drop_zero, Act.put, List.setIfInBounds_toArray, List.set_cons_zero, List.set_cons_succ]
  have hb4 := hide hB4
  clear hB4 hC4
  go_wp2_with ((with_reducible refine storeT 24 (v' := (x + y) % P) (o := ⟨none, _, _, _, _, _⟩) ?_ (.tmp 6) (.tmp 17) ?_ ?_ ?_ (Hv3.out.next hb4.out) Try.sz24 ?_); rfl; rfl; rfl; rfl; intro w6 hv6 ho6)
  exact retT 24 rfl rfl hv6 Try.underlying24 rfl Try.sz24 rfl ⟨rfl, Only.below (below_next HB.out hb4.out) ho6.out Hb.out⟩

theorem fsub_m (bm P n x y : Nat) (w : World) (hF : FB w bm P n) :
    Calls Try.prog 77 #[.pointer (some ⟨bm, 0, none⟩), vE (x % P), vE (y % P)] w fun e w' => e = .returned (vE ((x + ng P y) % P)) ∧ Below w.heap.size w w' := by
  have hP : 0 < P := by have := hF.gt; omega
  have h := msub_any bm P n (x % P) (y % P) w hF (Nat.mod_lt x hP) (Nat.mod_lt y hP)
  have e : (x % P + P - y % P) % P = (x + ng P y) % P := by
    have := Nat.mod_lt y hP
    unfold ng
    rw [show x % P + P - y % P = x % P + (P - y % P) by omega, Nat.mod_add_mod]
  rw [e] at h; exact h

set_option maxRecDepth 100000 in
set_option maxHeartbeats 1600000 in
theorem fsub_c (b bm P n size x y : Nat) (w : World) (hF : FQ w b bm P n size) (hx : x < B64 ^ 6) (hy : y < B64 ^ 6) :
    Calls Try.prog 34 #[.pointer (some ⟨b, 0, none⟩), vE x, vE y] w fun e w' => e = .returned (vE ((x + ng P y) % P)) ∧ Below w.heap.size w w' := by
  go_enter Try.func34, Try.ntmps34
  have hF := hide hF
  have hx := hide hx
  have hy := hide hy
  go_upto_region 1 with (first
    | ((with_reducible refine boxT 24 (o := ⟨some 4, _, _, _, _, _⟩) ?_ (.tmp 1) ?_ (v := x) ?_ ?_); rfl; rfl; rfl; intro w1 b1 hv1 hn1)
    | ((with_reducible refine boxT 24 (o := ⟨some 5, _, _, _, _, _⟩) ?_ (.tmp 2) ?_ (v := y) ?_ ?_); rfl; rfl; rfl; intro w2 b2 hv2 hn2)
    | ((with_reducible refine allocT 24 (o := ⟨some 6, _, _, _, _, _⟩) ?_ ?_ Try.zr24 ?_); rfl; rfl; intro w3 b3 hv3 hn3))
  have HF := hide (((hF.out.next hn1.bl).next hn2.bl).next hn3.bl)
  have HB := hide (below_next (below_next hn1.bl hn2.bl) hn3.bl)
  have Hv1 := hide ((hv1.next hn2.bl).next hn3.bl)
  have Hv2 := hide (hv2.next hn3.bl)
  have Hv3 := hide hv3
  have Hb := hide (Nat.le_trans (Nat.le_trans hn1.bl.size hn2.bl.size) hn3.lo)
  have hP0 := HF.out.pos
  clear hv1 hv2 hv3 hn1 hn2 hn3 hF
  refine region_do 11 18 [fun v _ => v = .pointer (some ⟨b, 0, none⟩), fun v _ => v = .pointer (some ⟨b, 0, none⟩), fun v _ => v = .pointer (some ⟨b, 0, none⟩), fun v _ => v = .pointer (some ⟨bm, 0, none⟩), fun v _ => v = .pointer (some ⟨b, 0, none⟩), fun v _ => v = vE (x), fun v _ => v = vE (x % P), fun v _ => v = .pointer (some ⟨b, 0, none⟩), fun v _ => v = vE (y), fun v _ => v = vE (y % P), fun v _ => v = vE ((x + ng P y) % P)]
    [(0, .pointer (some ⟨b, 0, none⟩)), (4, .pointer (some ⟨b1, 0, none⟩)), (5, .pointer (some ⟨b2, 0, none⟩))] (fun w' => FQ w' b bm P n size ∧ VB w' b1 24 (ve x) ∧ VB w' b2 24 (ve y)) (fun w' => True) 999 none (by kernel_rfl) (by kernel_rfl) rfl rfl
    (.cons (Fact.eq _) rfl (.cons (Fact.eq _) rfl (.cons (Fact.eq _) rfl (.cons (Fact.eq _) rfl (.cons (Fact.eq _) rfl (.cons (Fact.eq _) rfl (.cons (Fact.eq _) rfl (.cons (Fact.eq _) rfl (.cons (Fact.eq _) rfl (.cons (Fact.eq _) rfl (.cons (Fact.eq _) rfl (.nil _)))))))))))) (fun w' h => ⟨HF.out.next h, Hv1.out.next h, Hv2.out.next h⟩) (fun w' h => trivial) (by kernel_rfl) ⟨rfl, rfl, rfl, trivial⟩ (.cons ?_ (.cons ?_ (.cons ?_ (.cons ?_ (.cons ?_ (.cons ?_ (.cons ?_ (.cons ?_ (.cons ?_ (.cons ?_ (.cons ?_ .nil))))))))))) ?_
  · refine Obl.plain rfl _ rfl rfl [] (by kernel_rfl) fun a W hF hC hD K hK => ?_
    have e0 : a.tmps.getD 0 undef = .pointer (some ⟨b, 0, none⟩) := hF.1
    clear hF hD hC
    go_simp
    exact hK _ _ rfl (Below.refl _ _)
  · refine Obl.plain rfl _ rfl rfl [0] (by kernel_rfl) fun a W hF hC hD K hK => ?_
    have e7 : a.tmps.getD 7 undef = .pointer (some ⟨b, 0, none⟩) := hD.1
    clear hF hD hC
    go_simp
    exact hK _ _ rfl (Below.refl _ _)
  · refine Obl.plain rfl _ rfl rfl [1] (by kernel_rfl) fun a W hF hC hD K hK => ?_
    have e8 : a.tmps.getD 8 undef = .pointer (some ⟨b, 0, none⟩) := hD.1
    clear hF hD hC
    go_simp
    exact hK _ _ rfl (Below.refl _ _)
  · refine Obl.plain rfl _ rfl rfl [2] (by kernel_rfl) fun a W hF hC hD K hK => ?_
    obtain ⟨c1, c2, c3⟩ := hC
    have e9 : a.tmps.getD 9 undef = .pointer (some ⟨b, 0, none⟩) := hD.1
    clear hF hD
    have f0 := c1.cellM
    go_simp
    exact hK _ _ rfl (Below.refl _ _)
  · refine Obl.plain rfl _ rfl rfl [] (by kernel_rfl) fun a W hF hC hD K hK => ?_
    have e0 : a.tmps.getD 0 undef = .pointer (some ⟨b, 0, none⟩) := hF.1
    clear hF hD hC
    go_simp
    exact hK _ _ rfl (Below.refl _ _)
  · refine Obl.plain rfl _ rfl rfl [] (by kernel_rfl) fun a W hF hC hD K hK => ?_
    obtain ⟨c1, c2, c3⟩ := hC
    have e4 : a.tmps.getD 4 undef = .pointer (some ⟨b1, 0, none⟩) := hF.2.1
    clear hF hD
    exact wpE _ (.tmp 4) rfl c2 e4 Try.underlying24 rfl Try.sz24 (hK _ _ rfl (Below.refl _ _))
  · refine Obl.plain rfl _ rfl rfl [4, 5] (by kernel_rfl) fun a W hF hC hD K hK => ?_
    obtain ⟨c1, c2, c3⟩ := hC
    have e11 : a.tmps.getD 11 undef = .pointer (some ⟨b, 0, none⟩) := hD.1
    have e12 : a.tmps.getD 12 undef = vE (x) := hD.2.1
    clear hF hD
    go_simp
    refine (freduce_c b bm P n size x W c1 hx.out).mono ?_
    rintro e W' ⟨rfl, hb⟩
    exact hK _ _ rfl hb
  · refine Obl.plain rfl _ rfl rfl [] (by kernel_rfl) fun a W hF hC hD K hK => ?_
    have e0 : a.tmps.getD 0 undef = .pointer (some ⟨b, 0, none⟩) := hF.1
    clear hF hD hC
    go_simp
    exact hK _ _ rfl (Below.refl _ _)
  · refine Obl.plain rfl _ rfl rfl [] (by kernel_rfl) fun a W hF hC hD K hK => ?_
    obtain ⟨c1, c2, c3⟩ := hC
    have e5 : a.tmps.getD 5 undef = .pointer (some ⟨b2, 0, none⟩) := hF.2.2.1
    clear hF hD
    exact wpE _ (.tmp 5) rfl c3 e5 Try.underlying24 rfl Try.sz24 (hK _ _ rfl (Below.refl _ _))
  · refine Obl.plain rfl _ rfl rfl [7, 8, 6] (by kernel_rfl) fun a W hF hC hD K hK => ?_
    obtain ⟨c1, c2, c3⟩ := hC
    have e14 : a.tmps.getD 14 undef = .pointer (some ⟨b, 0, none⟩) := hD.1
    have e15 : a.tmps.getD 15 undef = vE (y) := hD.2.1
    clear hF hD
    go_simp
    refine (freduce_c b bm P n size y W c1 hy.out).mono ?_
    rintro e W' ⟨rfl, hb⟩
    exact hK _ _ rfl hb
  · refine Obl.plain rfl _ rfl rfl [3, 6, 9, 9] (by kernel_rfl) fun a W hF hC hD K hK => ?_
    obtain ⟨c1, c2, c3⟩ := hC
    have e10 : a.tmps.getD 10 undef = .pointer (some ⟨bm, 0, none⟩) := hD.1
    have e13 : a.tmps.getD 13 undef = vE (x % P) := hD.2.1
    have e16 : a.tmps.getD 16 undef = vE (y % P) := hD.2.2.1
    clear hF hD
    go_simp
    refine (fsub_m bm P n x y W c1.fb).mono ?_
    rintro e W' ⟨rfl, hb⟩
    exact hK _ _ rfl hb
  rintro w4 hB4 hC4 _ rfl _ rfl _ rfl _ rfl _ rfl _ rfl _ rfl _ rfl _ rfl _ rfl _ rfl
  change Below _ _ _ at hB4
  change wpList _ _ _ _ _ _
  simp only [List.drop_succ_cons, List.drop_zero, Act.put, List.setIfInBounds_toArray, List.set_cons_zero, List.set_cons_succ]
  have hb4 := hide hB4
  clear hB4 hC4
  go_wp2_with ((with_reducible refine storeT 24 (v' := (x + ng P y) % P) (o := ⟨none, _, _, _, _, _⟩) ?_ (.tmp 6) (.tmp 17) ?_ ?_ ?_ (Hv3.out.next hb4.out) Try.sz24 ?_); rfl; rfl; rfl; rfl; intro w6 hv6 ho6)
  exact retT 24 rfl rfl hv6 Try.underlying24 rfl Try.sz24 rfl ⟨rfl, Only.below (below_next HB.out hb4.out) ho6.out Hb.out⟩

set_option maxRecDepth 100000 in
set_option maxHeartbeats 1600000 in
theorem fmul_c (b bm P n size x y : Nat) (w : World) (hF : FQ w b bm P n size) (hx : x < B64 ^ 6) (hy : y < B64 ^ 6) :
    Calls Try.prog 19 #[.pointer (some ⟨b, 0, none⟩), vE x, vE y] w fun e w' => e = .returned (vE (x * y % P)) ∧ Below w.heap.size w w' := by
  go_enter Try.func19, Try.ntmps19
  have hF := hide hF
  have hx := hide hx
  have hy := hide hy
  go_upto_region 1 with (first
    | ((with_reducible refine boxT 24 (o := ⟨some 4, _, _, _, _, _⟩) ?_ (.tmp 1) ?_ (v := x) ?_ ?_); rfl; rfl; rfl; intro w1 b1 hv1 hn1)
    | ((with_reducible refine boxT 24 (o := ⟨some 5, _, _, _, _, _⟩) ?_ (.tmp 2) ?_ (v := y) ?_ ?_); rfl; rfl; rfl; intro w2 b2 hv2 hn2)
    | ((with_reducible refine allocT 24 (o := ⟨some 6, _, _, _, _, _⟩) ?_ ?_ Try.zr24 ?_); rfl; rfl; intro w3 b3 hv3 hn3))
  have HF := hide (((hF.out.next hn1.bl).next hn2.bl).next hn3.bl)
  have HB := hide (below_next (below_next hn1.bl hn2.bl) hn3.bl)
  have Hv1 := hide ((hv1.next hn2.bl).next hn3.bl)
  have Hv2 := hide (hv2.next hn3.bl)
  have Hv3 := hide hv3
  have Hb := hide (Nat.le_trans (Nat.le_trans hn1.bl.size hn2.bl.size) hn3.lo)
  have hP0 := HF.out.pos
  clear hv1 hv2 hv3 hn1 hn2 hn3 hF
  refine region_do 13 20 [fun v _ => v = .pointer (some ⟨b, 0, none⟩), fun v _ => v = .pointer (some ⟨b, 0, none⟩), fun v _ => v = .pointer (some ⟨b, 0, none⟩), fun v _ => v = .pointer (some ⟨b, 0, none⟩), fun v _ => v = .pointer (some ⟨bm, 0, none⟩), fun v _ => v = .pointer (some ⟨b, 0, none⟩), fun v _ => v = vE (x), fun v _ => v = vE (mf P n x), fun v _ => v = .pointer (some ⟨b, 0, none⟩), fun v _ => v = vE (y), fun v _ => v = vE (mf P n y), fun v _ => v = vE (mf P n (x * y)), fun v _ => v = vE (x * y % P)]
    [(0, .pointer (some ⟨b, 0, none⟩)), (4, .pointer (some ⟨b1, 0, none⟩)), (5, .pointer (some ⟨b2, 0, none⟩))] (fun w' => FQ w' b bm P n size ∧ VB w' b1 24 (ve x) ∧ VB w' b2 24 (ve y)) (fun w' => True) 999 none (by kernel_rfl) (by kernel_rfl) rfl rfl
    (.cons (Fact.eq _) rfl (.cons (Fact.eq _) rfl (.cons (Fact.eq _) rfl (.cons (Fact.eq _) rfl (.cons (Fact.eq _) rfl (.cons (Fact.eq _) rfl (.cons (Fact.eq _) rfl (.cons (Fact.eq _) rfl (.cons (Fact.eq _) rfl (.cons (Fact.eq _) rfl (.cons (Fact.eq _) rfl (.cons (Fact.eq _) rfl (.cons (Fact.eq _) rfl (.nil _)))))))))))))) (fun w' h => ⟨HF.out.next h, Hv1.out.next h, Hv2.out.next h⟩) (fun w' h => trivial) (by kernel_rfl) ⟨rfl, rfl, rfl, trivial⟩ (.cons ?_ (.cons ?_ (.cons ?_ (.cons ?_ (.cons ?_ (.cons ?_ (.cons ?_ (.cons ?_ (.cons ?_ (.cons ?_ (.cons ?_ (.cons ?_ (.cons ?_ .nil))))))))))))) ?_
  · refine Obl.plain rfl _ rfl rfl [] (by kernel_rfl) fun a W hF hC hD K hK => ?_
    have e0 : a.tmps.getD 0 undef = .pointer (some ⟨b, 0, none⟩) := hF.1
    clear hF hD hC
    go_simp
    exact hK _ _ rfl (Below.refl _ _)
  · refine Obl.plain rfl _ rfl rfl [] (by kernel_rfl) fun a W hF hC hD K hK => ?_
    have e0 : a.tmps.getD 0 undef = .pointer (some ⟨b, 0, none⟩) := hF.1
    clear hF hD hC
    go_simp
    exact hK _ _ rfl (Below.refl _ _)
  · refine Obl.plain rfl _ rfl rfl [1] (by kernel_rfl) fun a W hF hC hD K hK => ?_
    have e8 : a.tmps.getD 8 undef = .pointer (some ⟨b, 0, none⟩) := hD.1
    clear hF hD hC
    go_simp
    exact hK _ _ rfl (Below.refl _ _)
  · refine Obl.plain rfl _ rfl rfl [2] (by kernel_rfl) fun a W hF hC hD K hK => ?_
    have e9 : a.tmps.getD 9 undef = .pointer (some ⟨b, 0, none⟩) := hD.1
    clear hF hD hC
    go_simp
    exact hK _ _ rfl (Below.refl _ _)
  · refine Obl.plain rfl _ rfl rfl [3] (by kernel_rfl) fun a W hF hC hD K hK => ?_
    obtain ⟨c1, c2, c3⟩ := hC
    have e10 : a.tmps.getD 10 undef = .pointer (some ⟨b, 0, none⟩) := hD.1
    clear hF hD
    have f0 := c1.cellM
    go_simp
    exact hK _ _ rfl (Below.refl _ _)
  · refine Obl.plain rfl _ rfl rfl [] (by kernel_rfl) fun a W hF hC hD K hK => ?_
    have e0 : a.tmps.getD 0 undef = .pointer (some ⟨b, 0, none⟩) := hF.1
    clear hF hD hC
    go_simp
    exact hK _ _ rfl (Below.refl _ _)
  · refine Obl.plain rfl _ rfl rfl [] (by kernel_rfl) fun a W hF hC hD K hK => ?_
    obtain ⟨c1, c2, c3⟩ := hC
    have e4 : a.tmps.getD 4 undef = .pointer (some ⟨b1, 0, none⟩) := hF.2.1
    clear hF hD
    exact wpE _ (.tmp 4) rfl c2 e4 Try.underlying24 rfl Try.sz24 (hK _ _ rfl (Below.refl _ _))
  · refine Obl.plain rfl _ rfl rfl [5, 6] (by kernel_rfl) fun a W hF hC hD K hK => ?_
    obtain ⟨c1, c2, c3⟩ := hC
    have e12 : a.tmps.getD 12 undef = .pointer (some ⟨b, 0, none⟩) := hD.1
    have e13 : a.tmps.getD 13 undef = vE (x) := hD.2.1
    clear hF hD
    go_simp
    refine (fin_c b bm P n size x W c1 hx.out).mono ?_
    rintro e W' ⟨rfl, hb⟩
    exact hK _ _ rfl hb
  · refine Obl.plain rfl _ rfl rfl [] (by kernel_rfl) fun a W hF hC hD K hK => ?_
    have e0 : a.tmps.getD 0 undef = .pointer (some ⟨b, 0, none⟩) := hF.1
    clear hF hD hC
    go_simp
    exact hK _ _ rfl (Below.refl _ _)
  · refine Obl.plain rfl _ rfl rfl [] (by kernel_rfl) fun a W hF hC hD K hK => ?_
    obtain ⟨c1, c2, c3⟩ := hC
    have e5 : a.tmps.getD 5 undef = .pointer (some ⟨b2, 0, none⟩) := hF.2.2.1
    clear hF hD
    exact wpE _ (.tmp 5) rfl c3 e5 Try.underlying24 rfl Try.sz24 (hK _ _ rfl (Below.refl _ _))
  · refine Obl.plain rfl _ rfl rfl [8, 9, 7] (by kernel_rfl) fun a W hF hC hD K hK => ?_
    obtain ⟨c1, c2, c3⟩ := hC
    have e15 : a.tmps.getD 15 undef = .pointer (some ⟨b, 0, none⟩) := hD.1
    have e16 : a.tmps.getD 16 undef = vE (y) := hD.2.1
    clear hF hD
    go_simp
    refine (fin_c b bm P n size y W c1 hy.out).mono ?_
    rintro e W' ⟨rfl, hb⟩
    exact hK _ _ rfl hb
  · refine Obl.plain rfl _ rfl rfl [4, 7, 10, 10] (by kernel_rfl) fun a W hF hC hD K hK => ?_
    obtain ⟨c1, c2, c3⟩ := hC
    have e11 : a.tmps.getD 11 undef = .pointer (some ⟨bm, 0, none⟩) := hD.1
    have e14 : a.tmps.getD 14 undef = vE (mf P n x) := hD.2.1
    have e17 : a.tmps.getD 17 undef = vE (mf P n y) := hD.2.2.1
    clear hF hD
    go_simp
    refine (mmul_c bm P n x y W c1.fb c1.inv).mono ?_
    rintro e W' ⟨rfl, hb⟩
    exact hK _ _ rfl hb
  · refine Obl.plain rfl _ rfl rfl [0, 11, 11] (by kernel_rfl) fun a W hF hC hD K hK => ?_
    obtain ⟨c1, c2, c3⟩ := hC
    have e7 : a.tmps.getD 7 undef = .pointer (some ⟨b, 0, none⟩) := hD.1
    have e18 : a.tmps.getD 18 undef = vE (mf P n (x * y)) := hD.2.1
    clear hF hD
    go_simp
    refine (fout_c b bm P n size (x * y) W c1).mono ?_
    rintro e W' ⟨rfl, hb⟩
    exact hK _ _ rfl hb
  rintro w4 hB4 hC4 _ rfl _ rfl _ rfl _ rfl _ rfl _ rfl _ rfl _ rfl _ rfl _ rfl _ rfl _ rfl _ rfl
  change Below _ _ _ at hB4
  change wpList _ _ _ _ _ _
  simp only [List.drop_succ_cons, List.drop_zero, Act.put, List.setIfInBounds_toArray, List.set_cons_zero, List.set_cons_succ]
  have hb4 := hide hB4
  clear hB4 hC4
  go_wp2_with ((with_reducible refine storeT 24 (v' := x * y % P) (o := ⟨none, _, _, _, _, _⟩) ?_ (.tmp 6) (.tmp 19) ?_ ?_ ?_ (Hv3.out.next hb4.out) Try.sz24 ?_); rfl; rfl; rfl; rfl; intro w6 hv6 ho6)
  exact retT 24 rfl rfl hv6 Try.underlying24 rfl Try.sz24 rfl ⟨rfl, Only.below (below_next HB.out hb4.out) ho6.out Hb.out⟩

set_option maxRecDepth 100000 in
theorem fneg_c (b bm P n size y : Nat) (w : World) (hF : FQ w b bm P n size) (hy : y < B64 ^ 6) :
    Calls Try.prog 36 #[.pointer (some ⟨b, 0, none⟩), vE y] w fun e w' => e = .returned (vE (ng P y % P)) ∧ Below w.heap.size w w' := by
  go_enter Try.func36, Try.ntmps36
  have hF := hide hF
  have hy := hide hy
  go_wp2_with (first
    | ((with_reducible refine boxT 24 (o := ⟨some 3, _, _, _, _, _⟩) ?_ (.tmp 1) ?_ (v := y) ?_ ?_); rfl; rfl; rfl; intro w1 b1 hv1 hn1)
    | ((with_reducible refine allocT 24 (o := ⟨some 4, _, _, _, _, _⟩) ?_ ?_ Try.zr24 ?_); rfl; rfl; intro w3 b3 hv3 hn3)
    | ((with_reducible refine loadT 24 (o := ⟨some 7, _, _, _, _, _⟩) ?_ (.tmp 3) ?_ ?_ (hv1.next hn3.bl) Try.underlying24 rfl Try.sz24 ?_); rfl; rfl; rfl)
    | (go_at_call 34; have h0 := fsub_c b bm P n size 0 y w3 ((hF.out.next hn1.bl).next hn3.bl) (pw_pos 6) hy.out; rw [Nat.zero_add] at h0; refine h0.mono ?_; rintro e w4 ⟨rfl, hb4⟩; replace hb4 := hide hb4; clear h0)
    | ((with_reducible refine storeT 24 (v' := ng P y % P) (o := ⟨none, _, _, _, _, _⟩) ?_ (.tmp 4) (.tmp 8) ?_ ?_ ?_ (hv3.next hb4.out) Try.sz24 ?_); rfl; rfl; rfl; rfl; intro w6 hv6 ho6))
  exact retT 24 rfl rfl hv6 Try.underlying24 rfl Try.sz24 rfl ⟨rfl, Only.below (below_next (below_next hn1.bl hn3.bl) hb4.out) ho6.out (by have := hn1.sz; have := hn3.lo; omega)⟩
end Go.Proofs.Ytincemkjdgbnnaa
