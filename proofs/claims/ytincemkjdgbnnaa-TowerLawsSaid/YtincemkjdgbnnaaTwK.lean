/- Walks: law07.both. -/
import Derived.Test.YtincemkjdgbnnaaTwJ
set_option linter.unusedVariables false
set_option linter.unusedSimpArgs false
namespace Go.Proofs.Ytincemkjdgbnnaa
open Go.RowKit Lm

theorem retT4 {fn : Func} {R : Ending → World → Prop} {a : Act} {w : World} {p q u v : Tmp} (hr : fn.results = #[.tmp q, .cell p 69, .tmp u, .tmp v]) {b : Nat} {L : List Value} {t : TypeId} (hp : a.tmps.getD p undef = .pointer (some ⟨b, 0, none⟩))
    (hv : VB w b t L) (hl2 : L.length = 3) {x y z : Value} (hx : a.tmps.getD q undef = x) (hy : a.tmps.getD u undef = y) (hz : a.tmps.getD v undef = z) (hdf : a.defers = []) (hR : R (.returned (.tuple #[x, .agg L.toArray, y, z])) w) : bodyPost Try.prog fn R .ret a w := by
  refine bodyPost_ret (v := .tuple #[x, .agg L.toArray, y, z]) ?_ hdf hR
  have hl := run_loadVar_row (P := Try.prog) w b t 69 L.toArray (0, 0) _ hv Try.underlying69 rfl (by rw [Try.szT]; simp [hl2])
  simp only [results, hr]
  rw [← hx, ← hy, ← hz]
  rw [Array.getD_eq_getD_getElem?] at hp
  simp [Sem.run_bind, Result.andThen, hl, asAddr, hp]
theorem TW.onlyB {w w' : World} {b bf bt bm P n size b' : Nat} {N : Int} {fr : List Value} (h : TW w b bf bt bm P n size N fr) (ho : Only w w' b') (hne : b ≠ b' ∧ bf ≠ b' ∧ bt ≠ b' ∧ bm ≠ b') : TW w' b bf bt bm P n size N fr := h.only ho hne.1 hne.2.1 hne.2.2.1 hne.2.2.2

/-- both towers. -/
def RetB7 (w : World) (P n size Pr szr N : Nat) (e : Ending) (w' : World) : Prop :=
  ∃ tb bf bt bm A c A' c', e = .returned (.tuple #[.pointer (some ⟨tb, 0, none⟩), .agg (vT A Pr c szr A' N c').toArray, .bool true, .bool false]) ∧ TW w' tb bf bt bm P n size (N : Int) (fr6 P n (N : Int)) ∧
    (digs B32 Pr).length ≤ c ∧ Rd w' .u32 A (digs B32 Pr) ∧ (digs B32 N).length ≤ c' ∧ Rd w' .u32 A' (digs B32 N) ∧ Below w.heap.size w w'

set_option maxRecDepth 100000 in
set_option maxHeartbeats 3200000 in
theorem both7_g {k : Int} {P n size N : Nat} (w : World) (Hnew : ∀ W, Calls Try.prog 82 #[.int .i64 k] W (RetT W P n size N)) (Hof : ∀ W, Calls Try.prog 83 #[.int .i64 k] W (RetRT W P size N true)) :
    Calls Try.prog 41 #[.int .i64 k] w (RetB7 w P n size P size N) := by
  have Hnew := hide Hnew
  have Hof := hide Hof
  unfold RetT at Hnew
  unfold RetRT at Hof
  have hq0 := hide (St.start w)
  go_enter Try.func41, Try.ntmps41
  go_upto_region 2 with (first
    | ((with_reducible refine allocS (o := ⟨some 3, _, _, _, _, _⟩) ?_ 69 ?_ hq0.out vT0 Try.zrT ?_); rfl; rfl; intro w1 b3 hS; have hq1 : Hid (St w w1 [⟨b3, 69, vT0⟩]) := hide hS; clear hS)
    | (go_at_call 82; refine (Hnew.out w1).mono ?_; rintro e w2 ⟨tb, bf, bt, bm, rfl, hT, hg1, hg2, hg3, hg4, hB⟩; replace hT := hide hT; replace hB := hide hB))
  have hq2 := hide (hq1.out.next hB.out)
  have hlt3 : b3 < w1.heap.size := (hq1.out.vb 0 _ rfl).lt
  have Hne3 := hide (show tb ≠ b3 ∧ bf ≠ b3 ∧ bt ≠ b3 ∧ bm ≠ b3 by omega)
  clear hg1 hg2 hg3 hg4 hlt3 Hnew
  go_upto_region 5 with (first
    | (go_at_call 83; refine (Hof.out w2).mono ?_; rintro e w3 ⟨A, c, A', c', rfl, hc, hr, hc', hr', hb3⟩; replace hc := hide hc; replace hr := hide hr; replace hc' := hide hc'; replace hr' := hide hr'; replace hb3 := hide hb3; have hq3 := hide (hq2.out.next hb3.out))
    | ((with_reducible refine allocSN (o := ⟨some 8, _, _, _, _, _⟩) ?_ 69 ?_ hq3.out vT0 Try.zrT ?_); rfl; rfl; intro w4 b8 hS hlo8 hbl8; have hq4 : Hid (St w w4 [⟨b3, 69, vT0⟩, ⟨b8, 69, vT0⟩]) := hide hS; clear hS)
    | ((with_reducible refine storeWS (n := 3) (o := ⟨none, _, _, _, _, _⟩) ?_ 69 (.tmp 8) (.tmp 18) ?_ hq4.out 1 (c := ⟨b8, 69, vT0⟩) ?_ ?_ (vT A P c size A' N c') ?_ ?_ ?_ ?_ Try.szT ?_); rfl; rfl; rfl; rfl; rfl; rfl; rfl; rfl; intro w5 hS hO; have hq5 : Hid (St w w5 [⟨b3, 69, vT0⟩, ⟨b8, 69, vT A P c size A' N c'⟩]) := hide hS; have hO5 := hO; clear hS hO))
  have hT3 := hT.out.next hb3.out
  have hT5 := hide ((hT3.next hbl8).onlyB hO5.out ⟨Nat.ne_of_lt (Nat.lt_of_lt_of_le hT3.vb.lt hlo8), Nat.ne_of_lt (Nat.lt_of_lt_of_le hT3.fq.vb.lt hlo8), Nat.ne_of_lt (Nat.lt_of_lt_of_le hT3.tb.vb.lt hlo8), Nat.ne_of_lt (Nat.lt_of_lt_of_le hT3.tb.fb.vb.lt hlo8)⟩)
  have hR5 := hide ((((hr.out.toB).next hbl8).only hO5.out hlo8).rd)
  have hR5' := hide ((((hr'.out.toB).next hbl8).only hO5.out hlo8).rd)
  have hv3 := hide (hq5.out.vb 0 _ rfl)
  have hne := hide (hq5.out.ne 0 1 _ _ rfl rfl (by decide))
  clear hq0 hq1 hq2 hq3 hq4 hT hT3 hr hr' hB hb3 Hof
  refine region_do 13 43 [fun v _ => v = .pointer (some ⟨tb, 0, none⟩), fun v _ => v = .agg (vT A P c size A' N c').toArray, fun v _ => v = .pointer (some ⟨tb, 0, none⟩), fun v _ => v = .bool true, fun v _ => v = .bool true, fun v _ => v = .int .i64 0, fun v _ => v = .bool true, fun v _ => v = .bool true, fun v _ => v = .bool true, fun v _ => v = .bool true, fun v _ => v = .bool true, fun v _ => v = .pointer (some ⟨tb, 0, none⟩), fun _ w => VB w b3 69 (vT A P c size A' N c')]
    [(6, .pointer (some ⟨tb, 0, none⟩)), (8, .pointer (some ⟨b8, 0, none⟩)), (7, .int .i64 0), (3, .pointer (some ⟨b3, 0, none⟩))] (fun w' => VB w' b8 69 (vT A P c size A' N c')) (fun w' => VB w' b3 69 vT0) 12 (some b3) (by kernel_rfl) (by kernel_rfl) rfl rfl
    (.cons (Fact.eq _) rfl (.cons (Fact.eq _) rfl (.cons (Fact.eq _) rfl (.cons (Fact.eq _) rfl (.cons (Fact.eq _) rfl (.cons (Fact.eq _) rfl (.cons (Fact.eq _) rfl (.cons (Fact.eq _) rfl (.cons (Fact.eq _) rfl (.cons (Fact.eq _) rfl (.cons (Fact.eq _) rfl (.cons (Fact.eq _) rfl (.store (fun w w' h hb => h.next hb) rfl (.nil _)))))))))))))) (fun w' h => h.vb (hq5.out.vb 1 _ rfl) (fun e => hne.out e.symm)) (fun w' h => hv3.out.next h) (by kernel_rfl) (by exact ⟨rfl, rfl, rfl, rfl, trivial⟩) (.cons ?_ (.cons ?_ (.cons ?_ (.cons ?_ (.cons ?_ (.cons ?_ (.cons ?_ (.cons ?_ (.cons ?_ (.cons ?_ (.cons ?_ (.cons ?_ (.cons ?_ .nil))))))))))))) ?_
  · refine Obl.plain rfl _ rfl rfl [] (by kernel_rfl) fun a W hF hC hD K hK => ?_
    have e6 : a.tmps.getD 6 undef = .pointer (some ⟨tb, 0, none⟩) := hF.1
    clear hF hD hC
    go_simp
    exact hK _ _ rfl (Below.refl _ _)
  · refine Obl.plain rfl _ rfl rfl [] (by kernel_rfl) fun a W hF hC hD K hK => ?_
    have c1 := hC
    have e8 : a.tmps.getD 8 undef = .pointer (some ⟨b8, 0, none⟩) := hF.2.1
    clear hF hD
    exact wpLd 69 (.tmp 8) rfl c1 0 e8 (vT A P c size A' N c') (part_all _ rfl) rfl Try.underlying69 rfl Try.szT (hK _ _ rfl (Below.refl _ _))
  · refine Obl.plain rfl _ rfl rfl [] (by kernel_rfl) fun a W hF hC hD K hK => ?_
    have e6 : a.tmps.getD 6 undef = .pointer (some ⟨tb, 0, none⟩) := hF.1
    clear hF hD hC
    go_simp
    exact hK _ _ rfl (Below.refl _ _)
  · refine Obl.plain rfl _ rfl rfl [2] (by kernel_rfl) fun a W hF hC hD K hK => ?_
    have e34 : a.tmps.getD 34 undef = .pointer (some ⟨tb, 0, none⟩) := hD.1
    clear hF hD hC
    go_simp
    exact hK _ _ rfl (Below.refl _ _)
  · refine Obl.plain rfl _ rfl rfl [3] (by kernel_rfl) fun a W hF hC hD K hK => ?_
    have e35 : a.tmps.getD 35 undef = .bool true := hD.1
    clear hF hD hC
    go_simp
    exact hK _ _ rfl (Below.refl _ _)
  · refine Obl.guarded rfl _ rfl 4 true 36 rfl rfl [4] (by kernel_rfl) (fun a W hF hC hD => hD.1) fun a W hF hC hD K hK => ?_
    have e7 : a.tmps.getD 7 undef = .int .i64 0 := hF.2.2.1
    clear hF hD hC
    go_simp
    exact hK _ _ rfl (Below.refl _ _)
  · refine Obl.guarded rfl _ rfl 4 true 36 rfl rfl [5, 4] (by kernel_rfl) (fun a W hF hC hD => hD.2.1) fun a W hF hC hD K hK => ?_
    have e37 : a.tmps.getD 37 undef = .int .i64 0 := hD.1
    clear hF hD hC
    go_simp
    exact hK _ _ rfl (Below.refl _ _)
  · refine Obl.plain rfl _ rfl rfl [4, 6] (by kernel_rfl) fun a W hF hC hD K hK => ?_
    have e36 : a.tmps.getD 36 undef = .bool true := hD.1
    have e38 : a.tmps.getD 38 undef = .bool true := hD.2.1
    clear hF hD hC
    go_simp
    exact hK _ _ rfl (Below.refl _ _)
  · refine Obl.plain rfl _ rfl rfl [7, 4] (by kernel_rfl) fun a W hF hC hD K hK => ?_
    have e39 : a.tmps.getD 39 undef = .bool true := hD.1
    clear hF hD hC
    go_simp
    exact hK _ _ rfl (Below.refl _ _)
  · refine Obl.guarded rfl _ rfl 8 true 40 rfl rfl [8, 8] (by kernel_rfl) (fun a W hF hC hD => hD.1) fun a W hF hC hD K hK => ?_
    clear hF hD hC
    exact wp_callV #[] #[] (.bool true) (by kernel_rfl) (rfl) (wakes7 W) fun w' hb => hK _ _ rfl hb
  · refine Obl.plain rfl _ rfl rfl [8, 9] (by kernel_rfl) fun a W hF hC hD K hK => ?_
    have e40 : a.tmps.getD 40 undef = .bool true := hD.1
    have e41 : a.tmps.getD 41 undef = .bool true := hD.2.1
    clear hF hD hC
    go_simp
    exact hK _ _ rfl (Below.refl _ _)
  · refine Obl.plain rfl _ rfl rfl [0, 9, 0] (by kernel_rfl) fun a W hF hC hD K hK => ?_
    have e32 : a.tmps.getD 32 undef = .pointer (some ⟨tb, 0, none⟩) := hD.1
    clear hF hD hC
    go_simp
    exact hK _ _ rfl (Below.refl _ _)
  · refine Obl.write rfl rfl _ rfl rfl [1, 11, 0, 1, 11] (by kernel_rfl) fun a W hF hC hC0 hD K hK => ?_
    have e3 : a.tmps.getD 3 undef = .pointer (some ⟨b3, 0, none⟩) := hF.2.2.2.1
    have e33 : a.tmps.getD 33 undef = .agg (vT A P c size A' N c').toArray := hD.1
    clear hF hD hC
    exact wpStW 69 (.tmp 3) (.tmp 33) rfl e3 (vT A P c size A' N c') e33 hC0 Try.szT rfl rfl fun W' hv ho => hK _ _ hv ho
  rintro w6 hB6 hC6 _ rfl _ rfl _ rfl _ rfl _ rfl _ rfl _ rfl _ rfl _ rfl _ rfl _ rfl _ rfl _ gw
  change Only _ _ _ at hB6
  change wpList _ _ _ _ _ _
  simp only [List.drop_succ_cons, List.drop_zero, Act.put, List.setIfInBounds_toArray, List.set_cons_zero, List.set_cons_succ]
  have hB6' := hide hB6
  have gw := hide gw
  clear hB6 hC6
  go_wp2_with fail
  exact retT4 rfl rfl gw.out rfl rfl rfl rfl rfl ⟨tb, bf, bt, bm, A, c, A', c', rfl, hT5.out.onlyB hB6'.out Hne3.out, hc.out, hR5.out.apart hv3.out noU32T hB6'.out, hc'.out, hR5'.out.apart hv3.out noU32T hB6'.out, Only.below hq5.out.bl hB6'.out (hq5.out.lo 0 _ rfl)⟩
theorem both7_c {k : Int} (w : World) (h : isCurve k) : Calls Try.prog 41 #[.int .i64 k] w (RetB7 w (kP (cK k)) (kn (cK k)) (ksz (cK k)) (kP (cK k)) (ksz (cK k)) (cN k)) :=
  both7_g w (fun W => tnew_c W h) (fun W => rof7_c W h)

/-- each value has a cell of its own. -/
def OneL (L : List Value) : Prop := L.all (·.oneCell') = true
set_option maxRecDepth 100000 in
set_option maxHeartbeats 3200000 in
theorem both7_n {k : Int} {P size N : Nat} (w : World) (Hnew : ∀ W, Calls Try.prog 82 #[.int .i64 k] W fun e w' => e = .returned (.tuple #[.pointer none, .int .i64 1]) ∧ w' = W) (Hof : ∀ W, Calls Try.prog 83 #[.int .i64 k] W (RetRT W P size N false)) :
    Calls Try.prog 41 #[.int .i64 k] w fun e w' => ∃ L : List Value, L.length = 3 ∧ OneL L ∧ e = .returned (.tuple #[.pointer none, .agg L.toArray, .bool false, .bool true]) ∧ Below w.heap.size w w' := by
  have Hnew := hide Hnew
  have Hof := hide Hof
  unfold RetRT at Hof
  have hq0 := hide (St.start w)
  go_enter Try.func41, Try.ntmps41
  go_upto_region 2 with (first
    | ((with_reducible refine allocS (o := ⟨some 3, _, _, _, _, _⟩) ?_ 69 ?_ hq0.out vT0 Try.zrT ?_); rfl; rfl; intro w1 b3 hS; have hq1 : Hid (St w w1 [⟨b3, 69, vT0⟩]) := hide hS; clear hS)
    | (go_at_call 82; refine (Hnew.out w1).mono ?_; rintro e w2 ⟨rfl, rfl⟩))
  clear Hnew
  go_upto_region 4 with (first
    | (go_at_call 83; refine (Hof.out _).mono ?_; rintro e w3 ⟨A, c, A', c', rfl, hc, hr, hc', hr', hb3⟩; clear hc hr hc' hr'; replace hb3 := hide hb3; have hq3 := hide (hq1.out.next hb3.out))
    | ((with_reducible refine allocSN (o := ⟨some 8, _, _, _, _, _⟩) ?_ 69 ?_ hq3.out vT0 Try.zrT ?_); rfl; rfl; intro w4 b8 hS hlo8 hbl8; have hq4 : Hid (St w w4 [⟨b3, 69, vT0⟩, ⟨b8, 69, vT0⟩]) := hide hS; clear hS)
    | ((with_reducible refine storeWS (n := 3) (o := ⟨none, _, _, _, _, _⟩) ?_ 69 (.tmp 8) (.tmp 18) ?_ hq4.out 1 (c := ⟨b8, 69, vT0⟩) ?_ ?_ (vT A P c size A' N c') ?_ ?_ ?_ ?_ Try.szT ?_); rfl; rfl; rfl; rfl; rfl; rfl; rfl; rfl; intro w5 hS hO; have hq5 : Hid (St w w5 [⟨b3, 69, vT0⟩, ⟨b8, 69, vT A P c size A' N c'⟩]) := hide hS; clear hS hO))
  have hv3 := hide (hq5.out.vb 0 _ rfl)
  have hne := hide (hq5.out.ne 0 1 _ _ rfl rfl (by decide))
  clear hq0 hq1 hq3 hq4 hb3 Hof
  refine region_do 13 43 [fun v _ => v = .agg (vT A P c size A' N c').toArray, fun v _ => v = .pointer none, fun v _ => v = .bool true, fun v _ => v = .bool true, fun v _ => v = .int .i64 1, fun v _ => v = .bool true, fun v _ => v = .bool true, fun v _ => v = .bool true, fun v _ => v = .bool true, fun v _ => v = .bool true, fun v _ => v = Value.pointer none, fun _ w => VB w b3 69 (vT A P c size A' N c'), fun v _ => v = Value.bool false]
    [(8, .pointer (some ⟨b8, 0, none⟩)), (6, .pointer none), (7, .int .i64 1), (3, .pointer (some ⟨b3, 0, none⟩))] (fun w' => VB w' b8 69 (vT A P c size A' N c')) (fun w' => VB w' b3 69 vT0) 11 (some b3) (by kernel_rfl) (by kernel_rfl) rfl rfl
    (.cons (Fact.eq _) rfl (.cons (Fact.eq _) rfl (.cons (Fact.eq _) rfl (.cons (Fact.eq _) rfl (.cons (Fact.eq _) rfl (.cons (Fact.eq _) rfl (.cons (Fact.eq _) rfl (.cons (Fact.eq _) rfl (.cons (Fact.eq _) rfl (.cons (Fact.eq _) rfl (.cons (Fact.eq _) rfl (.store (fun w w' h hb => h.next hb) rfl (.cons (Fact.eq _) rfl (.nil _)))))))))))))) (fun w' h => h.vb (hq5.out.vb 1 _ rfl) (fun e => hne.out e.symm)) (fun w' h => hv3.out.next h) (by kernel_rfl) (by exact ⟨rfl, rfl, rfl, rfl, trivial⟩) (.cons ?_ (.cons ?_ (.cons ?_ (.cons ?_ (.cons ?_ (.cons ?_ (.cons ?_ (.cons ?_ (.cons ?_ (.cons ?_ (.cons ?_ (.cons ?_ (.cons ?_ .nil))))))))))))) ?_
  · refine Obl.plain rfl _ rfl rfl [] (by kernel_rfl) fun a W hF hC hD K hK => ?_
    have c1 := hC
    have e8 : a.tmps.getD 8 undef = .pointer (some ⟨b8, 0, none⟩) := hF.1
    clear hF hD
    exact wpLd 69 (.tmp 8) rfl c1 0 e8 (vT A P c size A' N c') (part_all _ rfl) rfl Try.underlying69 rfl Try.szT (hK _ _ rfl (Below.refl _ _))
  · refine Obl.plain rfl _ rfl rfl [] (by kernel_rfl) fun a W hF hC hD K hK => ?_
    have e6 : a.tmps.getD 6 undef = .pointer none := hF.2.1
    clear hF hD hC
    go_simp
    exact hK _ _ rfl (Below.refl _ _)
  · refine Obl.plain rfl _ rfl rfl [1] (by kernel_rfl) fun a W hF hC hD K hK => ?_
    have e23 : a.tmps.getD 23 undef = .pointer none := hD.1
    clear hF hD hC
    go_simp
    exact hK _ _ rfl (Below.refl _ _)
  · refine Obl.plain rfl _ rfl rfl [2] (by kernel_rfl) fun a W hF hC hD K hK => ?_
    have e24 : a.tmps.getD 24 undef = .bool true := hD.1
    clear hF hD hC
    go_simp
    exact hK _ _ rfl (Below.refl _ _)
  · refine Obl.guarded rfl _ rfl 3 true 25 rfl rfl [3] (by kernel_rfl) (fun a W hF hC hD => hD.1) fun a W hF hC hD K hK => ?_
    have e7 : a.tmps.getD 7 undef = .int .i64 1 := hF.2.2.1
    clear hF hD hC
    go_simp
    exact hK _ _ rfl (Below.refl _ _)
  · refine Obl.guarded rfl _ rfl 3 true 25 rfl rfl [4, 3] (by kernel_rfl) (fun a W hF hC hD => hD.2.1) fun a W hF hC hD K hK => ?_
    have e26 : a.tmps.getD 26 undef = .int .i64 1 := hD.1
    clear hF hD hC
    go_simp
    exact hK _ _ rfl (Below.refl _ _)
  · refine Obl.plain rfl _ rfl rfl [3, 5] (by kernel_rfl) fun a W hF hC hD K hK => ?_
    have e25 : a.tmps.getD 25 undef = .bool true := hD.1
    have e27 : a.tmps.getD 27 undef = .bool true := hD.2.1
    clear hF hD hC
    go_simp
    exact hK _ _ rfl (Below.refl _ _)
  · refine Obl.plain rfl _ rfl rfl [6, 3] (by kernel_rfl) fun a W hF hC hD K hK => ?_
    have e28 : a.tmps.getD 28 undef = .bool true := hD.1
    clear hF hD hC
    go_simp
    exact hK _ _ rfl (Below.refl _ _)
  · refine Obl.guarded rfl _ rfl 7 true 29 rfl rfl [7, 7] (by kernel_rfl) (fun a W hF hC hD => hD.1) fun a W hF hC hD K hK => ?_
    clear hF hD hC
    exact wp_callV #[] #[] (.bool true) (by kernel_rfl) (rfl) (wakes7 W) fun w' hb => hK _ _ rfl hb
  · refine Obl.plain rfl _ rfl rfl [7, 8] (by kernel_rfl) fun a W hF hC hD K hK => ?_
    have e29 : a.tmps.getD 29 undef = .bool true := hD.1
    have e30 : a.tmps.getD 30 undef = .bool true := hD.2.1
    clear hF hD hC
    go_simp
    exact hK _ _ rfl (Below.refl _ _)
  · refine Obl.plain rfl _ rfl rfl [8] (by kernel_rfl) fun a W hF hC hD K hK => ?_
    clear hF hD hC
    go_simp
    exact hK _ _ rfl (Below.refl _ _)
  · refine Obl.write rfl rfl _ rfl rfl [0, 10, 0, 10] (by kernel_rfl) fun a W hF hC hC0 hD K hK => ?_
    have e3 : a.tmps.getD 3 undef = .pointer (some ⟨b3, 0, none⟩) := hF.2.2.2.1
    have e22 : a.tmps.getD 22 undef = .agg (vT A P c size A' N c').toArray := hD.1
    clear hF hD hC
    exact wpStW 69 (.tmp 3) (.tmp 22) rfl e3 (vT A P c size A' N c') e22 hC0 Try.szT rfl rfl fun W' hv ho => hK _ _ hv ho
  · refine Obl.plain rfl _ rfl rfl [11, 0, 10, 11] (by kernel_rfl) fun a W hF hC hD K hK => ?_
    clear hF hD hC
    go_simp
    exact hK _ _ rfl (Below.refl _ _)
  rintro w6 hB6 hC6 _ rfl _ rfl _ rfl _ rfl _ rfl _ rfl _ rfl _ rfl _ rfl _ rfl _ rfl _ gw _ rfl
  change Only _ _ _ at hB6
  change wpList _ _ _ _ _ _
  simp only [List.drop_succ_cons, List.drop_zero, Act.put, List.setIfInBounds_toArray, List.set_cons_zero, List.set_cons_succ]
  have hB6' := hide hB6
  have gw := hide gw
  clear hB6 hC6
  go_wp2_with fail
  exact retT4 rfl rfl gw.out rfl rfl rfl rfl rfl ⟨vT A P c size A' N c', rfl, rfl, rfl, Only.below hq5.out.bl hB6'.out (hq5.out.lo 0 _ rfl)⟩
theorem both7_none {k : Int} (w : World) (h : ¬ isCurve k) : Calls Try.prog 41 #[.int .i64 k] w fun e w' => ∃ L : List Value, L.length = 3 ∧ OneL L ∧ e = .returned (.tuple #[.pointer none, .agg L.toArray, .bool false, .bool true]) ∧ Below w.heap.size w w' :=
  both7_n w (fun W => tnew_none W h) (fun W => rof7_none W h)
end Go.Proofs.Ytincemkjdgbnnaa
