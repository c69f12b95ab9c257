/- Walks: the statements' helps (law06): what is asked; FieldLaws. -/
import Derived.Test.YtincemkjdgbnnaaOps
set_option linter.unusedVariables false
set_option linter.unusedSimpArgs false
namespace Go.Proofs.Ytincemkjdgbnnaa
open Go.RowKit Lm

/-- what is asked: a kind, three numbers, bytes. -/
def askCells (k : Int) (a b c : Nat) (s : Value) : List Value := .int .i64 k :: (ve a ++ (ve b ++ (ve c ++ [s])))
theorem askCells_length (k : Int) (a b c : Nat) (s : Value) : (askCells k a b c s).length = 20 := by simp [askCells, ve_length]
/-- one of the numbers is read. -/
theorem wpAsk {o : Oper} {a : Act} {w : World} {Q : Exit → Act → World → Prop} {K : Act → World → Prop} (x : Operand) (ho : o.op = .load 24 x) {bb : Nat} {t : TypeId} {L : List Value} (hF : VB w bb t L) (off : Nat) {v : Nat} (hx : a.eval x = .pointer (some ⟨bb, off, none⟩)) (hv : (L.drop off).take 6 = ve v)
    (h : K (a.put o.dst (vE v)) w) : o.wp Try.prog a w K Q :=
  wp_load_mid _ x ho bb off hx (ve v) _ (fun j u hj => by
    rw [hF.cell]
    rw [← hv, List.getElem?_take] at hj
    split at hj
    · rwa [List.getElem?_drop] at hj
    · cases hj) Try.underlying24 rfl (by rw [ve_length]; exact Try.sz24) h
theorem wpList_of_wpK {P : Program} {ops : Array Oper} {rest : List Oper} {o : Oper} {a : Act} {w : World} {Q : Exit → Act → World → Prop} (hg : o.guard = none) (h : o.wp P a w (wpList P ops Q rest) Q) :
    wpList P ops Q (o :: rest) a w := wpList_of_wp (by simp [Region.wanted, hg]) h

/-- six numbers are written into a variable of six cells. -/
theorem storeX {ops : Array Oper} {rest : List Oper} {o : Oper} {a : Act} {w : World} {Q : Exit → Act → World → Prop} (ty : TypeId) (hgd : o.guard = none) (x y : Operand) (ho : o.op = .store ty x y) {b v' : Nat} {t : TypeId} {L : List Value} (hx : a.eval x = .pointer (some ⟨b, 0, none⟩)) (hy : a.eval y = vE v') (hv : VB w b t L) (hl : L.length = 6)
    (hi : (Try.prog.info? ty).map (·.size) = some 6) (h : ∀ w', VB w' b t (ve v') → Hid (Only w w' b) → wpList Try.prog ops Q rest (a.put o.dst undef) w') : wpList Try.prog ops Q (o :: rest) a w :=
  wpList_storeW hgd _ x y ho hx hv (ve v') hy (by rw [ve_length]; exact hi) (ve_one v') (by rw [ve_length, hl]) fun w' h1 h2 => h w' h1 (hide h2)

set_option maxRecDepth 100000 in
set_option maxHeartbeats 3200000 in
theorem laws_c (k : Int) (x y z : Nat) (s : Value) (w : World) (hk : isKind k) (ha : x < B64 ^ 6) (hb : y < B64 ^ 6) (hc : z < B64 ^ 6) :
    Calls Try.prog 7 #[.agg (askCells k x y z s).toArray] w fun e w' => e = .returned (.bool true) ∧ Below w.heap.size w w' := by
  have Hboth := hide (fun W => both_c k W hk)
  have Hp := hide (kprime hk)
  have Ha := hide ha
  have Hb := hide hb
  have Hc := hide hc
  generalize kP k = P at *
  generalize kn k = n at *
  generalize ksz k = sz at *
  clear ha hb hc hk
  go_enter Try.func7, Try.ntmps7
  go_upto_region 4 with (first
    | ((with_reducible refine wpList_box (o := ⟨some 1, _, _, _, _, _⟩) ?_ 27 (.tmp 0) ?_ (askCells k x y z s) ?_ ?_); rfl; rfl; rfl; intro w1 b1 h1 hv1 h3 h4; have hn1 : New w w1 b1 := ⟨by rw [h1]; exact Nat.le_refl _, by rw [h4]; omega, h3⟩; have r0 : w1.cell? ⟨b1, 0, none⟩ = some (.int .i64 k) := hv1.cell 0; clear h1 h3 h4; replace hv1 := hide hv1; replace hn1 := hide hn1)
    | (go_at_call 12; refine (Hboth.out w1).mono ?_; rintro e w2 ⟨bf, bm, A, cp, rfl, hF, hcp, hr, hB2⟩; replace hF := hide hF; replace hr := hide hr; replace hcp := hide hcp; replace hB2 := hide hB2)
    | ((with_reducible refine wpList_alloc (o := ⟨some 4, _, _, _, _, _⟩) ?_ 32 ?_ [.slice none 0 0, .int .i64 0] Try.zrF ?_); rfl; rfl; intro w4 b4 h1 hv4 h3 h4; have hn4 : New w2 w4 b4 := ⟨by rw [h1]; exact Nat.le_refl _, by rw [h4]; omega, h3⟩; clear h1 h3 h4; replace hn4 := hide hn4)
    | ((with_reducible refine wpList_storeW (o := ⟨none, _, _, _, _, _⟩) ?_ 32 (.tmp 4) (.tmp 17) ?_ ?_ hv4 (vF A P cp sz) ?_ (szVF _ _ _ _) ?_ ?_ ?_); rfl; rfl; rfl; rfl; rfl; rfl; intro w5 hv5 ho5; replace ho5 := hide ho5; replace hv5 := hide hv5))
  clear r0
  have hb14 : b1 < b4 := Nat.lt_of_lt_of_le hn1.out.hi (Nat.le_trans hB2.out.size hn4.out.lo)
  have HB5 := hide (Only.below (below_next (below_next hn1.out.bl hB2.out) hn4.out.bl) ho5.out (Nat.le_trans hn1.out.lo (Nat.le_of_lt hb14)))
  have HV1 := hide (ho5.out.vb ((hv1.out.next hB2.out).next hn4.out.bl) (Nat.ne_of_lt hb14))
  have hF4 := hF.out.next hn4.out.bl
  have HF5 := hide (hF4.only ho5.out (Nat.ne_of_lt (Nat.lt_of_lt_of_le hF.out.vb.lt hn4.out.lo)) (Nat.ne_of_lt (Nat.lt_of_lt_of_le hF.out.fb.vb.lt hn4.out.lo)))
  clear hv4 hb14 hF4 hn1 hn4 hB2 hF hv1 hr hcp hv5 ho5
  refine region_loc 11 175 [fun v _ => v = .pointer (some ⟨b1, 1, none⟩), fun v _ => v = vE (x), fun v _ => v = .pointer (some ⟨b1, 7, none⟩), fun v _ => v = vE (y), fun v _ => v = .pointer (some ⟨b1, 13, none⟩), fun v _ => v = vE (z), fun _ _ => True, fun _ _ => True, fun _ _ => True, fun _ _ => True, fun _ _ => True]
    [(1, .pointer (some ⟨b1, 0, none⟩))] (fun w' => VB w' b1 27 (askCells k x y z s)) [6, 7, 8] 24 (ve 0) [(9, 6, ve x), (10, 7, ve y)] (by kernel_rfl) (by kernel_rfl) rfl rfl
    (.cons (factB_eq _) (.cons (factB_eq _) (.cons (factB_eq _) (.cons (factB_eq _) (.cons (factB_eq _) (.cons (factB_eq _) (.cons (fun _ _ _ _ _ _ => trivial) (.cons (fun _ _ _ _ _ _ => trivial) (.cons (fun _ _ _ _ _ _ => trivial) (.cons (fun _ _ _ _ _ _ => trivial) (.cons (fun _ _ _ _ _ _ => trivial) .nil))))))))))) (by kernel_rfl) (fun w' h => HV1.out.next h) (by kernel_rfl) ⟨rfl, trivial⟩ (by kernel_rfl) (allC ⟨⟨_, _, rfl, rfl, rfl, rfl⟩⟩ (allC ⟨⟨_, _, rfl, rfl, rfl, rfl⟩⟩ (allC ⟨⟨_, _, rfl, rfl, rfl, rfl⟩⟩ allN))) (allC (fun _ _ => trivial) (allC (fun _ _ => trivial) (allC (fun _ _ => trivial) allN))) (by rfl) (allC ⟨⟨_, 7, 24, 1, rfl, rfl, rfl, rfl, rfl, rfl, by kernel_rfl, by kernel_rfl, fun v w h => h⟩⟩ (allC ⟨⟨_, 8, 26, 3, rfl, rfl, rfl, rfl, rfl, rfl, by kernel_rfl, by kernel_rfl, fun v w h => h⟩⟩ allN)) (allC (fun _ _ => trivial) (allC (fun _ _ => trivial) allN)) (show ([9, 10] : List Nat).Nodup by decide) Try.zr24 Try.sz24 (.cons (fun _ _ => ?_) (.cons (fun _ _ => ?_) (.cons (fun _ _ => ?_) (.cons (fun _ _ => ?_) (.cons (fun _ _ => ?_) (.cons (fun _ _ => ?_) (.cons (fun h _ => absurd h (by decide)) (.cons (fun h _ => absurd h (by decide)) (.cons (fun h _ => absurd h (by decide)) (.cons (fun _ h => absurd (show true = false from h) (by decide)) (.cons (fun _ h => absurd (show true = false from h) (by decide)) .nil))))))))))) ?_
  · refine Obl.plain rfl _ rfl rfl [] (by kernel_rfl) fun a W hF hC hD K hK => ?_
    have e1 : a.tmps.getD 1 undef = .pointer (some ⟨b1, 0, none⟩) := hF.1
    clear hF hD hC
    go_simp
    exact hK _ _ rfl (Below.refl _ _)
  · refine Obl.plain rfl _ rfl rfl [0] (by kernel_rfl) fun a W hF hC hD K hK => ?_
    have c1 := hC
    have e23 : a.tmps.getD 23 undef = .pointer (some ⟨b1, 1, none⟩) := hD.1
    clear hF hD
    exact wpAsk (.tmp 23) rfl c1 1 e23 rfl (hK _ _ rfl (Below.refl _ _))
  · refine Obl.plain rfl _ rfl rfl [] (by kernel_rfl) fun a W hF hC hD K hK => ?_
    have e1 : a.tmps.getD 1 undef = .pointer (some ⟨b1, 0, none⟩) := hF.1
    clear hF hD hC
    go_simp
    exact hK _ _ rfl (Below.refl _ _)
  · refine Obl.plain rfl _ rfl rfl [2] (by kernel_rfl) fun a W hF hC hD K hK => ?_
    have c1 := hC
    have e25 : a.tmps.getD 25 undef = .pointer (some ⟨b1, 7, none⟩) := hD.1
    clear hF hD
    exact wpAsk (.tmp 25) rfl c1 7 e25 rfl (hK _ _ rfl (Below.refl _ _))
  · refine Obl.plain rfl _ rfl rfl [] (by kernel_rfl) fun a W hF hC hD K hK => ?_
    have e1 : a.tmps.getD 1 undef = .pointer (some ⟨b1, 0, none⟩) := hF.1
    clear hF hD hC
    go_simp
    exact hK _ _ rfl (Below.refl _ _)
  · refine Obl.plain rfl _ rfl rfl [4] (by kernel_rfl) fun a W hF hC hD K hK => ?_
    have c1 := hC
    have e27 : a.tmps.getD 27 undef = .pointer (some ⟨b1, 13, none⟩) := hD.1
    clear hF hD
    exact wpAsk (.tmp 27) rfl c1 13 e27 rfl (hK _ _ rfl (Below.refl _ _))
  rintro w6 bs hB6 hC6 hAl hDl hSl _ rfl _ rfl _ rfl _ rfl _ rfl _ rfl _ rfl _ rfl _ rfl _ - _ -
  obtain ⟨hlb7, Lb7, hvb7, hnb7⟩ := hAl 6 (by decide)
  obtain ⟨hlb8, Lb8, hvb8, hnb8⟩ := hAl 7 (by decide)
  obtain ⟨hlb9, Lb9, hvb9, hnb9⟩ := hAl 8 (by decide)
  have hdb7b8 := hDl 6 7 (by decide) (by decide) (by decide)
  have hdb7b9 := hDl 6 8 (by decide) (by decide) (by decide)
  have hdb8b9 := hDl 7 8 (by decide) (by decide) (by decide)
  have hsb7 := hSl _ (.head _)
  have hsb8 := hSl _ (.tail _ (.head _))
  clear hAl hDl hSl
  change _ ≤ bs 6 at hlb7
  change _ ≤ bs 7 at hlb8
  change _ ≤ bs 8 at hlb9
  change VB _ (bs 6) _ _ at hsb7
  change VB _ (bs 7) _ _ at hsb8
  change wpList _ _ _ _ _ _
  simp only [List.drop_succ_cons, List.drop_zero, Act.put, List.setIfInBounds_toArray, List.set_cons_zero, List.set_cons_succ]
  generalize bs 6 = b7 at *
  generalize bs 7 = b8 at *
  generalize bs 8 = b9 at *
  clear bs
  go_upto_region 5 with ((with_reducible refine storeX 24 (v' := z) (o := ⟨none, _, _, _, _, _⟩) ?_ (.tmp 9) (.tmp 28) ?_ ?_ ?_ hvb9 ?_ Try.sz24 ?_); rfl; rfl; rfl; rfl; exact hnb9; intro w7 hv9 ho7)
  have hw5 : w.heap.size ≤ w5.heap.size := HB5.out.size
  have HB7 := hide (Only.below (below_next HB5.out hB6) ho7.out (Nat.le_trans hw5 hlb9))
  have HF6 := HF5.out.next hB6
  have HF7 := hide (HF6.only ho7.out (fun e => Nat.not_lt_of_le hlb9 (e ▸ HF5.out.vb.lt)) (fun e => Nat.not_lt_of_le hlb9 (e ▸ HF5.out.fb.vb.lt)))
  have HA7 := hide (ho7.out.vb hsb7 hdb7b9)
  have HC7 := hide (ho7.out.vb hsb8 hdb8b9)
  have HD7 := hide hv9
  have mlt := hide (show ∀ x, x % P < B64 ^ 6 from fun x => Nat.lt_of_lt_of_le (Nat.mod_lt _ (Nat.lt_trans (by decide) Hp.out.1)) (Nat.le_of_lt HF7.out.lt6))
  clear hw5 HF6 hB6 hC6 hlb7 hlb8 hlb9 hvb7 hvb8 hvb9 hnb7 hnb8 hnb9 hsb7 hsb8 hdb7b8 hdb7b9 hdb8b9 hv9 ho7 HB5 HV1 HF5 Hboth
  have hP0 := hide (NT.Prime.pos Hp.out)
  refine region_do 74 175 [fun v _ => v = .pointer (some ⟨bf, 0, none⟩), fun v _ => v = vE (x), fun v _ => v = vE (y), fun v _ => v = vE (((x) + (y)) % P), fun v _ => v = .pointer (some ⟨bf, 0, none⟩), fun v _ => v = vE (y), fun v _ => v = vE (x), fun v _ => v = vE (((y) + (x)) % P), fun v _ => v = .bool false, fun v _ => v = .bool false, fun v _ => v = .pointer (some ⟨bf, 0, none⟩), fun v _ => v = vE (x), fun v _ => v = vE (y), fun v _ => v = vE ((x) * (y) % P), fun v _ => v = .pointer (some ⟨bf, 0, none⟩), fun v _ => v = vE (y), fun v _ => v = vE (x), fun v _ => v = vE ((y) * (x) % P), fun v _ => v = .bool false, fun v _ => v = .bool false, fun v _ => v = .bool false, fun v _ => v = .pointer (some ⟨bf, 0, none⟩), fun v _ => v = .pointer (some ⟨bf, 0, none⟩), fun v _ => v = vE (x), fun v _ => v = vE (y), fun v _ => v = vE (((x) + (y)) % P), fun v _ => v = vE (z), fun v _ => v = vE (((((x) + (y)) % P) + (z)) % P), fun v _ => v = .pointer (some ⟨bf, 0, none⟩), fun v _ => v = vE (x), fun v _ => v = .pointer (some ⟨bf, 0, none⟩), fun v _ => v = vE (y), fun v _ => v = vE (z), fun v _ => v = vE (((y) + (z)) % P), fun v _ => v = vE (((x) + (((y) + (z)) % P)) % P), fun v _ => v = .bool false, fun v _ => v = .bool false, fun v _ => v = .bool false, fun v _ => v = .pointer (some ⟨bf, 0, none⟩), fun v _ => v = .pointer (some ⟨bf, 0, none⟩), fun v _ => v = vE (x), fun v _ => v = vE (y), fun v _ => v = vE ((x) * (y) % P), fun v _ => v = vE (z), fun v _ => v = vE (((x) * (y) % P) * (z) % P), fun v _ => v = .pointer (some ⟨bf, 0, none⟩), fun v _ => v = vE (x), fun v _ => v = .pointer (some ⟨bf, 0, none⟩), fun v _ => v = vE (y), fun v _ => v = vE (z), fun v _ => v = vE ((y) * (z) % P), fun v _ => v = vE ((x) * ((y) * (z) % P) % P), fun v _ => v = .bool false, fun v _ => v = .bool false, fun v _ => v = .bool false, fun v _ => v = .pointer (some ⟨bf, 0, none⟩), fun v _ => v = vE (x), fun v _ => v = .pointer (some ⟨bf, 0, none⟩), fun v _ => v = vE (y), fun v _ => v = vE (z), fun v _ => v = vE (((y) + (z)) % P), fun v _ => v = vE ((x) * (((y) + (z)) % P) % P), fun v _ => v = .pointer (some ⟨bf, 0, none⟩), fun v _ => v = .pointer (some ⟨bf, 0, none⟩), fun v _ => v = vE (x), fun v _ => v = vE (y), fun v _ => v = vE ((x) * (y) % P), fun v _ => v = .pointer (some ⟨bf, 0, none⟩), fun v _ => v = vE (x), fun v _ => v = vE (z), fun v _ => v = vE ((x) * (z) % P), fun v _ => v = vE ((((x) * (y) % P) + ((x) * (z) % P)) % P), fun v _ => v = .bool false, fun v _ => v = .bool false]
    [(3, .pointer (some ⟨bf, 0, none⟩)), (7, .pointer (some ⟨b7, 0, none⟩)), (8, .pointer (some ⟨b8, 0, none⟩)), (9, .pointer (some ⟨b9, 0, none⟩))] (fun w' => FQ w' bf bm P n sz ∧ VB w' b7 24 (ve x) ∧ VB w' b8 24 (ve y) ∧ VB w' b9 24 (ve z)) (fun w' => True) 999 none (by kernel_rfl) (by kernel_rfl) rfl rfl
    (.cons (Fact.eq _) rfl (.cons (Fact.eq _) rfl (.cons (Fact.eq _) rfl (.cons (Fact.eq _) rfl (.cons (Fact.eq _) rfl (.cons (Fact.eq _) rfl (.cons (Fact.eq _) rfl (.cons (Fact.eq _) rfl (.cons (Fact.eq _) rfl (.cons (Fact.eq _) rfl (.cons (Fact.eq _) rfl (.cons (Fact.eq _) rfl (.cons (Fact.eq _) rfl (.cons (Fact.eq _) rfl (.cons (Fact.eq _) rfl (.cons (Fact.eq _) rfl (.cons (Fact.eq _) rfl (.cons (Fact.eq _) rfl (.cons (Fact.eq _) rfl (.cons (Fact.eq _) rfl (.cons (Fact.eq _) rfl (.cons (Fact.eq _) rfl (.cons (Fact.eq _) rfl (.cons (Fact.eq _) rfl (.cons (Fact.eq _) rfl (.cons (Fact.eq _) rfl (.cons (Fact.eq _) rfl (.cons (Fact.eq _) rfl (.cons (Fact.eq _) rfl (.cons (Fact.eq _) rfl (.cons (Fact.eq _) rfl (.cons (Fact.eq _) rfl (.cons (Fact.eq _) rfl (.cons (Fact.eq _) rfl (.cons (Fact.eq _) rfl (.cons (Fact.eq _) rfl (.cons (Fact.eq _) rfl (.cons (Fact.eq _) rfl (.cons (Fact.eq _) rfl (.cons (Fact.eq _) rfl (.cons (Fact.eq _) rfl (.cons (Fact.eq _) rfl (.cons (Fact.eq _) rfl (.cons (Fact.eq _) rfl (.cons (Fact.eq _) rfl (.cons (Fact.eq _) rfl (.cons (Fact.eq _) rfl (.cons (Fact.eq _) rfl (.cons (Fact.eq _) rfl (.cons (Fact.eq _) rfl (.cons (Fact.eq _) rfl (.cons (Fact.eq _) rfl (.cons (Fact.eq _) rfl (.cons (Fact.eq _) rfl (.cons (Fact.eq _) rfl (.cons (Fact.eq _) rfl (.cons (Fact.eq _) rfl (.cons (Fact.eq _) rfl (.cons (Fact.eq _) rfl (.cons (Fact.eq _) rfl (.cons (Fact.eq _) rfl (.cons (Fact.eq _) rfl (.cons (Fact.eq _) rfl (.cons (Fact.eq _) rfl (.cons (Fact.eq _) rfl (.cons (Fact.eq _) rfl (.cons (Fact.eq _) rfl (.cons (Fact.eq _) rfl (.cons (Fact.eq _) rfl (.cons (Fact.eq _) rfl (.cons (Fact.eq _) rfl (.cons (Fact.eq _) rfl (.cons (Fact.eq _) rfl (.cons (Fact.eq _) rfl (.nil _))))))))))))))))))))))))))))))))))))))))))))))))))))))))))))))))))))))))))) (fun w' h => ⟨HF7.out.next h, HA7.out.next h, HC7.out.next h, HD7.out.next h⟩) (fun w' h => trivial) (by kernel_rfl) ⟨rfl, rfl, rfl, rfl, trivial⟩ (.cons ?_ (.cons ?_ (.cons ?_ (.cons ?_ (.cons ?_ (.cons ?_ (.cons ?_ (.cons ?_ (.cons ?_ (.cons ?_ (.cons ?_ (.cons ?_ (.cons ?_ (.cons ?_ (.cons ?_ (.cons ?_ (.cons ?_ (.cons ?_ (.cons ?_ (.cons ?_ (.cons ?_ (.cons ?_ (.cons ?_ (.cons ?_ (.cons ?_ (.cons ?_ (.cons ?_ (.cons ?_ (.cons ?_ (.cons ?_ (.cons ?_ (.cons ?_ (.cons ?_ (.cons ?_ (.cons ?_ (.cons ?_ (.cons ?_ (.cons ?_ (.cons ?_ (.cons ?_ (.cons ?_ (.cons ?_ (.cons ?_ (.cons ?_ (.cons ?_ (.cons ?_ (.cons ?_ (.cons ?_ (.cons ?_ (.cons ?_ (.cons ?_ (.cons ?_ (.cons ?_ (.cons ?_ (.cons ?_ (.cons ?_ (.cons ?_ (.cons ?_ (.cons ?_ (.cons ?_ (.cons ?_ (.cons ?_ (.cons ?_ (.cons ?_ (.cons ?_ (.cons ?_ (.cons ?_ (.cons ?_ (.cons ?_ (.cons ?_ (.cons ?_ (.cons ?_ (.cons ?_ (.cons ?_ .nil)))))))))))))))))))))))))))))))))))))))))))))))))))))))))))))))))))))))))) ?_
  · refine Obl.plain rfl _ rfl rfl [] (by kernel_rfl) fun a W hF hC hD K hK => ?_
    have e3 : a.tmps.getD 3 undef = .pointer (some ⟨bf, 0, none⟩) := hF.1
    clear hF hD hC
    go_simp
    exact hK _ _ rfl (Below.refl _ _)
  · refine Obl.plain rfl _ rfl rfl [] (by kernel_rfl) fun a W hF hC hD K hK => ?_
    obtain ⟨c1, c2, c3, c4⟩ := hC
    have e7 : a.tmps.getD 7 undef = .pointer (some ⟨b7, 0, none⟩) := hF.2.1
    clear hF hD
    exact wpE _ (.tmp 7) rfl c2 e7 Try.underlying24 rfl Try.sz24 (hK _ _ rfl (Below.refl _ _))
  · refine Obl.plain rfl _ rfl rfl [] (by kernel_rfl) fun a W hF hC hD K hK => ?_
    obtain ⟨c1, c2, c3, c4⟩ := hC
    have e8 : a.tmps.getD 8 undef = .pointer (some ⟨b8, 0, none⟩) := hF.2.2.1
    clear hF hD
    exact wpE _ (.tmp 8) rfl c3 e8 Try.underlying24 rfl Try.sz24 (hK _ _ rfl (Below.refl _ _))
  · refine Obl.plain rfl _ rfl rfl [0, 1, 2] (by kernel_rfl) fun a W hF hC hD K hK => ?_
    obtain ⟨c1, c2, c3, c4⟩ := hC
    have e29 : a.tmps.getD 29 undef = .pointer (some ⟨bf, 0, none⟩) := hD.1
    have e30 : a.tmps.getD 30 undef = vE (x) := hD.2.1
    have e31 : a.tmps.getD 31 undef = vE (y) := hD.2.2.1
    clear hF hD
    exact wp_callV #[a.tmps.getD 29 undef, a.tmps.getD 30 undef, a.tmps.getD 31 undef] #[.pointer (some ⟨bf, 0, none⟩), vE (x), vE (y)] (vE (((x) + (y)) % P)) (by kernel_rfl) (by rw [e29, e30, e31]) (fadd_c bf bm P n sz (x) (y) W c1 Ha.out Hb.out) fun w' hb => hK _ _ rfl hb
  · refine Obl.plain rfl _ rfl rfl [] (by kernel_rfl) fun a W hF hC hD K hK => ?_
    have e3 : a.tmps.getD 3 undef = .pointer (some ⟨bf, 0, none⟩) := hF.1
    clear hF hD hC
    go_simp
    exact hK _ _ rfl (Below.refl _ _)
  · refine Obl.plain rfl _ rfl rfl [] (by kernel_rfl) fun a W hF hC hD K hK => ?_
    obtain ⟨c1, c2, c3, c4⟩ := hC
    have e8 : a.tmps.getD 8 undef = .pointer (some ⟨b8, 0, none⟩) := hF.2.2.1
    clear hF hD
    exact wpE _ (.tmp 8) rfl c3 e8 Try.underlying24 rfl Try.sz24 (hK _ _ rfl (Below.refl _ _))
  · refine Obl.plain rfl _ rfl rfl [] (by kernel_rfl) fun a W hF hC hD K hK => ?_
    obtain ⟨c1, c2, c3, c4⟩ := hC
    have e7 : a.tmps.getD 7 undef = .pointer (some ⟨b7, 0, none⟩) := hF.2.1
    clear hF hD
    exact wpE _ (.tmp 7) rfl c2 e7 Try.underlying24 rfl Try.sz24 (hK _ _ rfl (Below.refl _ _))
  · refine Obl.plain rfl _ rfl rfl [4, 5, 6, 3] (by kernel_rfl) fun a W hF hC hD K hK => ?_
    obtain ⟨c1, c2, c3, c4⟩ := hC
    have e33 : a.tmps.getD 33 undef = .pointer (some ⟨bf, 0, none⟩) := hD.1
    have e34 : a.tmps.getD 34 undef = vE (y) := hD.2.1
    have e35 : a.tmps.getD 35 undef = vE (x) := hD.2.2.1
    clear hF hD
    exact wp_callV #[a.tmps.getD 33 undef, a.tmps.getD 34 undef, a.tmps.getD 35 undef] #[.pointer (some ⟨bf, 0, none⟩), vE (y), vE (x)] (vE (((y) + (x)) % P)) (by kernel_rfl) (by rw [e33, e34, e35]) (fadd_c bf bm P n sz (y) (x) W c1 Hb.out Ha.out) fun w' hb => hK _ _ rfl hb
  · refine Obl.plain rfl _ rfl rfl [3, 7] (by kernel_rfl) fun a W hF hC hD K hK => ?_
    have e32 : a.tmps.getD 32 undef = vE (((x) + (y)) % P) := hD.1
    have e36 : a.tmps.getD 36 undef = vE (((y) + (x)) % P) := hD.2.1
    clear hF hD hC
    have f0 := eqv_of (pl_addc P x y)
    exact wp_neqN (.tmp 32) (.tmp 36) _ rfl e32 e36 (hK _ _ (congrArg (fun t => Value.bool (!t)) f0) (Below.refl _ _))
  · refine Obl.plain rfl _ rfl rfl [8, 7] (by kernel_rfl) fun a W hF hC hD K hK => ?_
    have e37 : a.tmps.getD 37 undef = .bool false := hD.1
    clear hF hD hC
    go_simp
    exact hK _ _ rfl (Below.refl _ _)
  · refine Obl.guarded rfl _ rfl 9 false 38 rfl rfl [9] (by kernel_rfl) (fun a W hF hC hD => hD.1) fun a W hF hC hD K hK => ?_
    have e3 : a.tmps.getD 3 undef = .pointer (some ⟨bf, 0, none⟩) := hF.1
    clear hF hD hC
    go_simp
    exact hK _ _ rfl (Below.refl _ _)
  · refine Obl.guarded rfl _ rfl 9 false 38 rfl rfl [9] (by kernel_rfl) (fun a W hF hC hD => hD.1) fun a W hF hC hD K hK => ?_
    obtain ⟨c1, c2, c3, c4⟩ := hC
    have e7 : a.tmps.getD 7 undef = .pointer (some ⟨b7, 0, none⟩) := hF.2.1
    clear hF hD
    exact wpE _ (.tmp 7) rfl c2 e7 Try.underlying24 rfl Try.sz24 (hK _ _ rfl (Below.refl _ _))
  · refine Obl.guarded rfl _ rfl 9 false 38 rfl rfl [9] (by kernel_rfl) (fun a W hF hC hD => hD.1) fun a W hF hC hD K hK => ?_
    obtain ⟨c1, c2, c3, c4⟩ := hC
    have e8 : a.tmps.getD 8 undef = .pointer (some ⟨b8, 0, none⟩) := hF.2.2.1
    clear hF hD
    exact wpE _ (.tmp 8) rfl c3 e8 Try.underlying24 rfl Try.sz24 (hK _ _ rfl (Below.refl _ _))
  · refine Obl.guarded rfl _ rfl 9 false 38 rfl rfl [10, 11, 12, 9, 9] (by kernel_rfl) (fun a W hF hC hD => hD.2.2.2.1) fun a W hF hC hD K hK => ?_
    obtain ⟨c1, c2, c3, c4⟩ := hC
    have e39 : a.tmps.getD 39 undef = .pointer (some ⟨bf, 0, none⟩) := hD.1
    have e40 : a.tmps.getD 40 undef = vE (x) := hD.2.1
    have e41 : a.tmps.getD 41 undef = vE (y) := hD.2.2.1
    clear hF hD
    exact wp_callV #[a.tmps.getD 39 undef, a.tmps.getD 40 undef, a.tmps.getD 41 undef] #[.pointer (some ⟨bf, 0, none⟩), vE (x), vE (y)] (vE ((x) * (y) % P)) (by kernel_rfl) (by rw [e39, e40, e41]) (fmul_c bf bm P n sz (x) (y) W c1 Ha.out Hb.out) fun w' hb => hK _ _ rfl hb
  · refine Obl.guarded rfl _ rfl 9 false 38 rfl rfl [9] (by kernel_rfl) (fun a W hF hC hD => hD.1) fun a W hF hC hD K hK => ?_
    have e3 : a.tmps.getD 3 undef = .pointer (some ⟨bf, 0, none⟩) := hF.1
    clear hF hD hC
    go_simp
    exact hK _ _ rfl (Below.refl _ _)
  · refine Obl.guarded rfl _ rfl 9 false 38 rfl rfl [9] (by kernel_rfl) (fun a W hF hC hD => hD.1) fun a W hF hC hD K hK => ?_
    obtain ⟨c1, c2, c3, c4⟩ := hC
    have e8 : a.tmps.getD 8 undef = .pointer (some ⟨b8, 0, none⟩) := hF.2.2.1
    clear hF hD
    exact wpE _ (.tmp 8) rfl c3 e8 Try.underlying24 rfl Try.sz24 (hK _ _ rfl (Below.refl _ _))
  · refine Obl.guarded rfl _ rfl 9 false 38 rfl rfl [9] (by kernel_rfl) (fun a W hF hC hD => hD.1) fun a W hF hC hD K hK => ?_
    obtain ⟨c1, c2, c3, c4⟩ := hC
    have e7 : a.tmps.getD 7 undef = .pointer (some ⟨b7, 0, none⟩) := hF.2.1
    clear hF hD
    exact wpE _ (.tmp 7) rfl c2 e7 Try.underlying24 rfl Try.sz24 (hK _ _ rfl (Below.refl _ _))
  · refine Obl.guarded rfl _ rfl 9 false 38 rfl rfl [14, 15, 16, 13, 9] (by kernel_rfl) (fun a W hF hC hD => hD.2.2.2.2.1) fun a W hF hC hD K hK => ?_
    obtain ⟨c1, c2, c3, c4⟩ := hC
    have e43 : a.tmps.getD 43 undef = .pointer (some ⟨bf, 0, none⟩) := hD.1
    have e44 : a.tmps.getD 44 undef = vE (y) := hD.2.1
    have e45 : a.tmps.getD 45 undef = vE (x) := hD.2.2.1
    clear hF hD
    exact wp_callV #[a.tmps.getD 43 undef, a.tmps.getD 44 undef, a.tmps.getD 45 undef] #[.pointer (some ⟨bf, 0, none⟩), vE (y), vE (x)] (vE ((y) * (x) % P)) (by kernel_rfl) (by rw [e43, e44, e45]) (fmul_c bf bm P n sz (y) (x) W c1 Hb.out Ha.out) fun w' hb => hK _ _ rfl hb
  · refine Obl.guarded rfl _ rfl 9 false 38 rfl rfl [13, 17, 9] (by kernel_rfl) (fun a W hF hC hD => hD.2.2.1) fun a W hF hC hD K hK => ?_
    have e42 : a.tmps.getD 42 undef = vE ((x) * (y) % P) := hD.1
    have e46 : a.tmps.getD 46 undef = vE ((y) * (x) % P) := hD.2.1
    clear hF hD hC
    have f0 := eqv_of (pl_mulc P x y)
    exact wp_neqN (.tmp 42) (.tmp 46) _ rfl e42 e46 (hK _ _ (congrArg (fun t => Value.bool (!t)) f0) (Below.refl _ _))
  · refine Obl.plain rfl _ rfl rfl [9, 18] (by kernel_rfl) fun a W hF hC hD K hK => ?_
    have e38 : a.tmps.getD 38 undef = .bool false := hD.1
    have e47 : a.tmps.getD 47 undef = .bool false := hD.2.1
    clear hF hD hC
    exact wp_pick (.tmp 38) (.const (.bool true)) (.tmp 47) rfl (b := false) e38 e47 (hK _ _ rfl (Below.refl _ _))
  · refine Obl.plain rfl _ rfl rfl [19, 17] (by kernel_rfl) fun a W hF hC hD K hK => ?_
    have e48 : a.tmps.getD 48 undef = .bool false := hD.1
    clear hF hD hC
    go_simp
    exact hK _ _ rfl (Below.refl _ _)
  · refine Obl.guarded rfl _ rfl 20 false 49 rfl rfl [20] (by kernel_rfl) (fun a W hF hC hD => hD.1) fun a W hF hC hD K hK => ?_
    have e3 : a.tmps.getD 3 undef = .pointer (some ⟨bf, 0, none⟩) := hF.1
    clear hF hD hC
    go_simp
    exact hK _ _ rfl (Below.refl _ _)
  · refine Obl.guarded rfl _ rfl 20 false 49 rfl rfl [20] (by kernel_rfl) (fun a W hF hC hD => hD.1) fun a W hF hC hD K hK => ?_
    have e3 : a.tmps.getD 3 undef = .pointer (some ⟨bf, 0, none⟩) := hF.1
    clear hF hD hC
    go_simp
    exact hK _ _ rfl (Below.refl _ _)
  · refine Obl.guarded rfl _ rfl 20 false 49 rfl rfl [20] (by kernel_rfl) (fun a W hF hC hD => hD.1) fun a W hF hC hD K hK => ?_
    obtain ⟨c1, c2, c3, c4⟩ := hC
    have e7 : a.tmps.getD 7 undef = .pointer (some ⟨b7, 0, none⟩) := hF.2.1
    clear hF hD
    exact wpE _ (.tmp 7) rfl c2 e7 Try.underlying24 rfl Try.sz24 (hK _ _ rfl (Below.refl _ _))
  · refine Obl.guarded rfl _ rfl 20 false 49 rfl rfl [20] (by kernel_rfl) (fun a W hF hC hD => hD.1) fun a W hF hC hD K hK => ?_
    obtain ⟨c1, c2, c3, c4⟩ := hC
    have e8 : a.tmps.getD 8 undef = .pointer (some ⟨b8, 0, none⟩) := hF.2.2.1
    clear hF hD
    exact wpE _ (.tmp 8) rfl c3 e8 Try.underlying24 rfl Try.sz24 (hK _ _ rfl (Below.refl _ _))
  · refine Obl.guarded rfl _ rfl 20 false 49 rfl rfl [22, 23, 24, 20, 20] (by kernel_rfl) (fun a W hF hC hD => hD.2.2.2.1) fun a W hF hC hD K hK => ?_
    obtain ⟨c1, c2, c3, c4⟩ := hC
    have e51 : a.tmps.getD 51 undef = .pointer (some ⟨bf, 0, none⟩) := hD.1
    have e52 : a.tmps.getD 52 undef = vE (x) := hD.2.1
    have e53 : a.tmps.getD 53 undef = vE (y) := hD.2.2.1
    clear hF hD
    exact wp_callV #[a.tmps.getD 51 undef, a.tmps.getD 52 undef, a.tmps.getD 53 undef] #[.pointer (some ⟨bf, 0, none⟩), vE (x), vE (y)] (vE (((x) + (y)) % P)) (by kernel_rfl) (by rw [e51, e52, e53]) (fadd_c bf bm P n sz (x) (y) W c1 Ha.out Hb.out) fun w' hb => hK _ _ rfl hb
  · refine Obl.guarded rfl _ rfl 20 false 49 rfl rfl [20] (by kernel_rfl) (fun a W hF hC hD => hD.1) fun a W hF hC hD K hK => ?_
    obtain ⟨c1, c2, c3, c4⟩ := hC
    have e9 : a.tmps.getD 9 undef = .pointer (some ⟨b9, 0, none⟩) := hF.2.2.2.1
    clear hF hD
    exact wpE _ (.tmp 9) rfl c4 e9 Try.underlying24 rfl Try.sz24 (hK _ _ rfl (Below.refl _ _))
  · refine Obl.guarded rfl _ rfl 20 false 49 rfl rfl [21, 25, 26, 25, 20] (by kernel_rfl) (fun a W hF hC hD => hD.2.2.2.2.1) fun a W hF hC hD K hK => ?_
    obtain ⟨c1, c2, c3, c4⟩ := hC
    have e50 : a.tmps.getD 50 undef = .pointer (some ⟨bf, 0, none⟩) := hD.1
    have e54 : a.tmps.getD 54 undef = vE (((x) + (y)) % P) := hD.2.1
    have e55 : a.tmps.getD 55 undef = vE (z) := hD.2.2.1
    clear hF hD
    exact wp_callV #[a.tmps.getD 50 undef, a.tmps.getD 54 undef, a.tmps.getD 55 undef] #[.pointer (some ⟨bf, 0, none⟩), vE (((x) + (y)) % P), vE (z)] (vE (((((x) + (y)) % P) + (z)) % P)) (by kernel_rfl) (by rw [e50, e54, e55]) (fadd_c bf bm P n sz (((x) + (y)) % P) (z) W c1 (mlt.out _) Hc.out) fun w' hb => hK _ _ rfl hb
  · refine Obl.guarded rfl _ rfl 20 false 49 rfl rfl [20] (by kernel_rfl) (fun a W hF hC hD => hD.1) fun a W hF hC hD K hK => ?_
    have e3 : a.tmps.getD 3 undef = .pointer (some ⟨bf, 0, none⟩) := hF.1
    clear hF hD hC
    go_simp
    exact hK _ _ rfl (Below.refl _ _)
  · refine Obl.guarded rfl _ rfl 20 false 49 rfl rfl [20] (by kernel_rfl) (fun a W hF hC hD => hD.1) fun a W hF hC hD K hK => ?_
    obtain ⟨c1, c2, c3, c4⟩ := hC
    have e7 : a.tmps.getD 7 undef = .pointer (some ⟨b7, 0, none⟩) := hF.2.1
    clear hF hD
    exact wpE _ (.tmp 7) rfl c2 e7 Try.underlying24 rfl Try.sz24 (hK _ _ rfl (Below.refl _ _))
  · refine Obl.guarded rfl _ rfl 20 false 49 rfl rfl [20] (by kernel_rfl) (fun a W hF hC hD => hD.1) fun a W hF hC hD K hK => ?_
    have e3 : a.tmps.getD 3 undef = .pointer (some ⟨bf, 0, none⟩) := hF.1
    clear hF hD hC
    go_simp
    exact hK _ _ rfl (Below.refl _ _)
  · refine Obl.guarded rfl _ rfl 20 false 49 rfl rfl [20] (by kernel_rfl) (fun a W hF hC hD => hD.1) fun a W hF hC hD K hK => ?_
    obtain ⟨c1, c2, c3, c4⟩ := hC
    have e8 : a.tmps.getD 8 undef = .pointer (some ⟨b8, 0, none⟩) := hF.2.2.1
    clear hF hD
    exact wpE _ (.tmp 8) rfl c3 e8 Try.underlying24 rfl Try.sz24 (hK _ _ rfl (Below.refl _ _))
  · refine Obl.guarded rfl _ rfl 20 false 49 rfl rfl [20] (by kernel_rfl) (fun a W hF hC hD => hD.1) fun a W hF hC hD K hK => ?_
    obtain ⟨c1, c2, c3, c4⟩ := hC
    have e9 : a.tmps.getD 9 undef = .pointer (some ⟨b9, 0, none⟩) := hF.2.2.2.1
    clear hF hD
    exact wpE _ (.tmp 9) rfl c4 e9 Try.underlying24 rfl Try.sz24 (hK _ _ rfl (Below.refl _ _))
  · refine Obl.guarded rfl _ rfl 20 false 49 rfl rfl [30, 31, 32, 27, 20] (by kernel_rfl) (fun a W hF hC hD => hD.2.2.2.2.1) fun a W hF hC hD K hK => ?_
    obtain ⟨c1, c2, c3, c4⟩ := hC
    have e59 : a.tmps.getD 59 undef = .pointer (some ⟨bf, 0, none⟩) := hD.1
    have e60 : a.tmps.getD 60 undef = vE (y) := hD.2.1
    have e61 : a.tmps.getD 61 undef = vE (z) := hD.2.2.1
    clear hF hD
    exact wp_callV #[a.tmps.getD 59 undef, a.tmps.getD 60 undef, a.tmps.getD 61 undef] #[.pointer (some ⟨bf, 0, none⟩), vE (y), vE (z)] (vE (((y) + (z)) % P)) (by kernel_rfl) (by rw [e59, e60, e61]) (fadd_c bf bm P n sz (y) (z) W c1 Hb.out Hc.out) fun w' hb => hK _ _ rfl hb
  · refine Obl.guarded rfl _ rfl 20 false 49 rfl rfl [28, 29, 33, 33, 20] (by kernel_rfl) (fun a W hF hC hD => hD.2.2.2.2.1) fun a W hF hC hD K hK => ?_
    obtain ⟨c1, c2, c3, c4⟩ := hC
    have e57 : a.tmps.getD 57 undef = .pointer (some ⟨bf, 0, none⟩) := hD.1
    have e58 : a.tmps.getD 58 undef = vE (x) := hD.2.1
    have e62 : a.tmps.getD 62 undef = vE (((y) + (z)) % P) := hD.2.2.1
    clear hF hD
    exact wp_callV #[a.tmps.getD 57 undef, a.tmps.getD 58 undef, a.tmps.getD 62 undef] #[.pointer (some ⟨bf, 0, none⟩), vE (x), vE (((y) + (z)) % P)] (vE (((x) + (((y) + (z)) % P)) % P)) (by kernel_rfl) (by rw [e57, e58, e62]) (fadd_c bf bm P n sz (x) (((y) + (z)) % P) W c1 Ha.out (mlt.out _)) fun w' hb => hK _ _ rfl hb
  · refine Obl.guarded rfl _ rfl 20 false 49 rfl rfl [27, 34, 20] (by kernel_rfl) (fun a W hF hC hD => hD.2.2.1) fun a W hF hC hD K hK => ?_
    have e56 : a.tmps.getD 56 undef = vE (((((x) + (y)) % P) + (z)) % P) := hD.1
    have e63 : a.tmps.getD 63 undef = vE (((x) + (((y) + (z)) % P)) % P) := hD.2.1
    clear hF hD hC
    have f0 := eqv_of (pl_adda P x y z)
    exact wp_neqN (.tmp 56) (.tmp 63) _ rfl e56 e63 (hK _ _ (congrArg (fun t => Value.bool (!t)) f0) (Below.refl _ _))
  · refine Obl.plain rfl _ rfl rfl [20, 35] (by kernel_rfl) fun a W hF hC hD K hK => ?_
    have e49 : a.tmps.getD 49 undef = .bool false := hD.1
    have e64 : a.tmps.getD 64 undef = .bool false := hD.2.1
    clear hF hD hC
    exact wp_pick (.tmp 49) (.const (.bool true)) (.tmp 64) rfl (b := false) e49 e64 (hK _ _ rfl (Below.refl _ _))
  · refine Obl.plain rfl _ rfl rfl [36, 34] (by kernel_rfl) fun a W hF hC hD K hK => ?_
    have e65 : a.tmps.getD 65 undef = .bool false := hD.1
    clear hF hD hC
    go_simp
    exact hK _ _ rfl (Below.refl _ _)
  · refine Obl.guarded rfl _ rfl 37 false 66 rfl rfl [37] (by kernel_rfl) (fun a W hF hC hD => hD.1) fun a W hF hC hD K hK => ?_
    have e3 : a.tmps.getD 3 undef = .pointer (some ⟨bf, 0, none⟩) := hF.1
    clear hF hD hC
    go_simp
    exact hK _ _ rfl (Below.refl _ _)
  · refine Obl.guarded rfl _ rfl 37 false 66 rfl rfl [37] (by kernel_rfl) (fun a W hF hC hD => hD.1) fun a W hF hC hD K hK => ?_
    have e3 : a.tmps.getD 3 undef = .pointer (some ⟨bf, 0, none⟩) := hF.1
    clear hF hD hC
    go_simp
    exact hK _ _ rfl (Below.refl _ _)
  · refine Obl.guarded rfl _ rfl 37 false 66 rfl rfl [37] (by kernel_rfl) (fun a W hF hC hD => hD.1) fun a W hF hC hD K hK => ?_
    obtain ⟨c1, c2, c3, c4⟩ := hC
    have e7 : a.tmps.getD 7 undef = .pointer (some ⟨b7, 0, none⟩) := hF.2.1
    clear hF hD
    exact wpE _ (.tmp 7) rfl c2 e7 Try.underlying24 rfl Try.sz24 (hK _ _ rfl (Below.refl _ _))
  · refine Obl.guarded rfl _ rfl 37 false 66 rfl rfl [37] (by kernel_rfl) (fun a W hF hC hD => hD.1) fun a W hF hC hD K hK => ?_
    obtain ⟨c1, c2, c3, c4⟩ := hC
    have e8 : a.tmps.getD 8 undef = .pointer (some ⟨b8, 0, none⟩) := hF.2.2.1
    clear hF hD
    exact wpE _ (.tmp 8) rfl c3 e8 Try.underlying24 rfl Try.sz24 (hK _ _ rfl (Below.refl _ _))
  · refine Obl.guarded rfl _ rfl 37 false 66 rfl rfl [39, 40, 41, 37, 37] (by kernel_rfl) (fun a W hF hC hD => hD.2.2.2.1) fun a W hF hC hD K hK => ?_
    obtain ⟨c1, c2, c3, c4⟩ := hC
    have e68 : a.tmps.getD 68 undef = .pointer (some ⟨bf, 0, none⟩) := hD.1
    have e69 : a.tmps.getD 69 undef = vE (x) := hD.2.1
    have e70 : a.tmps.getD 70 undef = vE (y) := hD.2.2.1
    clear hF hD
    exact wp_callV #[a.tmps.getD 68 undef, a.tmps.getD 69 undef, a.tmps.getD 70 undef] #[.pointer (some ⟨bf, 0, none⟩), vE (x), vE (y)] (vE ((x) * (y) % P)) (by kernel_rfl) (by rw [e68, e69, e70]) (fmul_c bf bm P n sz (x) (y) W c1 Ha.out Hb.out) fun w' hb => hK _ _ rfl hb
  · refine Obl.guarded rfl _ rfl 37 false 66 rfl rfl [37] (by kernel_rfl) (fun a W hF hC hD => hD.1) fun a W hF hC hD K hK => ?_
    obtain ⟨c1, c2, c3, c4⟩ := hC
    have e9 : a.tmps.getD 9 undef = .pointer (some ⟨b9, 0, none⟩) := hF.2.2.2.1
    clear hF hD
    exact wpE _ (.tmp 9) rfl c4 e9 Try.underlying24 rfl Try.sz24 (hK _ _ rfl (Below.refl _ _))
  · refine Obl.guarded rfl _ rfl 37 false 66 rfl rfl [38, 42, 43, 42, 37] (by kernel_rfl) (fun a W hF hC hD => hD.2.2.2.2.1) fun a W hF hC hD K hK => ?_
    obtain ⟨c1, c2, c3, c4⟩ := hC
    have e67 : a.tmps.getD 67 undef = .pointer (some ⟨bf, 0, none⟩) := hD.1
    have e71 : a.tmps.getD 71 undef = vE ((x) * (y) % P) := hD.2.1
    have e72 : a.tmps.getD 72 undef = vE (z) := hD.2.2.1
    clear hF hD
    exact wp_callV #[a.tmps.getD 67 undef, a.tmps.getD 71 undef, a.tmps.getD 72 undef] #[.pointer (some ⟨bf, 0, none⟩), vE ((x) * (y) % P), vE (z)] (vE (((x) * (y) % P) * (z) % P)) (by kernel_rfl) (by rw [e67, e71, e72]) (fmul_c bf bm P n sz ((x) * (y) % P) (z) W c1 (mlt.out _) Hc.out) fun w' hb => hK _ _ rfl hb
  · refine Obl.guarded rfl _ rfl 37 false 66 rfl rfl [37] (by kernel_rfl) (fun a W hF hC hD => hD.1) fun a W hF hC hD K hK => ?_
    have e3 : a.tmps.getD 3 undef = .pointer (some ⟨bf, 0, none⟩) := hF.1
    clear hF hD hC
    go_simp
    exact hK _ _ rfl (Below.refl _ _)
  · refine Obl.guarded rfl _ rfl 37 false 66 rfl rfl [37] (by kernel_rfl) (fun a W hF hC hD => hD.1) fun a W hF hC hD K hK => ?_
    obtain ⟨c1, c2, c3, c4⟩ := hC
    have e7 : a.tmps.getD 7 undef = .pointer (some ⟨b7, 0, none⟩) := hF.2.1
    clear hF hD
    exact wpE _ (.tmp 7) rfl c2 e7 Try.underlying24 rfl Try.sz24 (hK _ _ rfl (Below.refl _ _))
  · refine Obl.guarded rfl _ rfl 37 false 66 rfl rfl [37] (by kernel_rfl) (fun a W hF hC hD => hD.1) fun a W hF hC hD K hK => ?_
    have e3 : a.tmps.getD 3 undef = .pointer (some ⟨bf, 0, none⟩) := hF.1
    clear hF hD hC
    go_simp
    exact hK _ _ rfl (Below.refl _ _)
  · refine Obl.guarded rfl _ rfl 37 false 66 rfl rfl [37] (by kernel_rfl) (fun a W hF hC hD => hD.1) fun a W hF hC hD K hK => ?_
    obtain ⟨c1, c2, c3, c4⟩ := hC
    have e8 : a.tmps.getD 8 undef = .pointer (some ⟨b8, 0, none⟩) := hF.2.2.1
    clear hF hD
    exact wpE _ (.tmp 8) rfl c3 e8 Try.underlying24 rfl Try.sz24 (hK _ _ rfl (Below.refl _ _))
  · refine Obl.guarded rfl _ rfl 37 false 66 rfl rfl [37] (by kernel_rfl) (fun a W hF hC hD => hD.1) fun a W hF hC hD K hK => ?_
    obtain ⟨c1, c2, c3, c4⟩ := hC
    have e9 : a.tmps.getD 9 undef = .pointer (some ⟨b9, 0, none⟩) := hF.2.2.2.1
    clear hF hD
    exact wpE _ (.tmp 9) rfl c4 e9 Try.underlying24 rfl Try.sz24 (hK _ _ rfl (Below.refl _ _))
  · refine Obl.guarded rfl _ rfl 37 false 66 rfl rfl [47, 48, 49, 44, 37] (by kernel_rfl) (fun a W hF hC hD => hD.2.2.2.2.1) fun a W hF hC hD K hK => ?_
    obtain ⟨c1, c2, c3, c4⟩ := hC
    have e76 : a.tmps.getD 76 undef = .pointer (some ⟨bf, 0, none⟩) := hD.1
    have e77 : a.tmps.getD 77 undef = vE (y) := hD.2.1
    have e78 : a.tmps.getD 78 undef = vE (z) := hD.2.2.1
    clear hF hD
    exact wp_callV #[a.tmps.getD 76 undef, a.tmps.getD 77 undef, a.tmps.getD 78 undef] #[.pointer (some ⟨bf, 0, none⟩), vE (y), vE (z)] (vE ((y) * (z) % P)) (by kernel_rfl) (by rw [e76, e77, e78]) (fmul_c bf bm P n sz (y) (z) W c1 Hb.out Hc.out) fun w' hb => hK _ _ rfl hb
  · refine Obl.guarded rfl _ rfl 37 false 66 rfl rfl [45, 46, 50, 50, 37] (by kernel_rfl) (fun a W hF hC hD => hD.2.2.2.2.1) fun a W hF hC hD K hK => ?_
    obtain ⟨c1, c2, c3, c4⟩ := hC
    have e74 : a.tmps.getD 74 undef = .pointer (some ⟨bf, 0, none⟩) := hD.1
    have e75 : a.tmps.getD 75 undef = vE (x) := hD.2.1
    have e79 : a.tmps.getD 79 undef = vE ((y) * (z) % P) := hD.2.2.1
    clear hF hD
    exact wp_callV #[a.tmps.getD 74 undef, a.tmps.getD 75 undef, a.tmps.getD 79 undef] #[.pointer (some ⟨bf, 0, none⟩), vE (x), vE ((y) * (z) % P)] (vE ((x) * ((y) * (z) % P) % P)) (by kernel_rfl) (by rw [e74, e75, e79]) (fmul_c bf bm P n sz (x) ((y) * (z) % P) W c1 Ha.out (mlt.out _)) fun w' hb => hK _ _ rfl hb
  · refine Obl.guarded rfl _ rfl 37 false 66 rfl rfl [44, 51, 37] (by kernel_rfl) (fun a W hF hC hD => hD.2.2.1) fun a W hF hC hD K hK => ?_
    have e73 : a.tmps.getD 73 undef = vE (((x) * (y) % P) * (z) % P) := hD.1
    have e80 : a.tmps.getD 80 undef = vE ((x) * ((y) * (z) % P) % P) := hD.2.1
    clear hF hD hC
    have f0 := eqv_of (pl_mula P x y z)
    exact wp_neqN (.tmp 73) (.tmp 80) _ rfl e73 e80 (hK _ _ (congrArg (fun t => Value.bool (!t)) f0) (Below.refl _ _))
  · refine Obl.plain rfl _ rfl rfl [37, 52] (by kernel_rfl) fun a W hF hC hD K hK => ?_
    have e66 : a.tmps.getD 66 undef = .bool false := hD.1
    have e81 : a.tmps.getD 81 undef = .bool false := hD.2.1
    clear hF hD hC
    exact wp_pick (.tmp 66) (.const (.bool true)) (.tmp 81) rfl (b := false) e66 e81 (hK _ _ rfl (Below.refl _ _))
  · refine Obl.plain rfl _ rfl rfl [53, 51] (by kernel_rfl) fun a W hF hC hD K hK => ?_
    have e82 : a.tmps.getD 82 undef = .bool false := hD.1
    clear hF hD hC
    go_simp
    exact hK _ _ rfl (Below.refl _ _)
  · refine Obl.guarded rfl _ rfl 54 false 83 rfl rfl [54] (by kernel_rfl) (fun a W hF hC hD => hD.1) fun a W hF hC hD K hK => ?_
    have e3 : a.tmps.getD 3 undef = .pointer (some ⟨bf, 0, none⟩) := hF.1
    clear hF hD hC
    go_simp
    exact hK _ _ rfl (Below.refl _ _)
  · refine Obl.guarded rfl _ rfl 54 false 83 rfl rfl [54] (by kernel_rfl) (fun a W hF hC hD => hD.1) fun a W hF hC hD K hK => ?_
    obtain ⟨c1, c2, c3, c4⟩ := hC
    have e7 : a.tmps.getD 7 undef = .pointer (some ⟨b7, 0, none⟩) := hF.2.1
    clear hF hD
    exact wpE _ (.tmp 7) rfl c2 e7 Try.underlying24 rfl Try.sz24 (hK _ _ rfl (Below.refl _ _))
  · refine Obl.guarded rfl _ rfl 54 false 83 rfl rfl [54] (by kernel_rfl) (fun a W hF hC hD => hD.1) fun a W hF hC hD K hK => ?_
    have e3 : a.tmps.getD 3 undef = .pointer (some ⟨bf, 0, none⟩) := hF.1
    clear hF hD hC
    go_simp
    exact hK _ _ rfl (Below.refl _ _)
  · refine Obl.guarded rfl _ rfl 54 false 83 rfl rfl [54] (by kernel_rfl) (fun a W hF hC hD => hD.1) fun a W hF hC hD K hK => ?_
    obtain ⟨c1, c2, c3, c4⟩ := hC
    have e8 : a.tmps.getD 8 undef = .pointer (some ⟨b8, 0, none⟩) := hF.2.2.1
    clear hF hD
    exact wpE _ (.tmp 8) rfl c3 e8 Try.underlying24 rfl Try.sz24 (hK _ _ rfl (Below.refl _ _))
  · refine Obl.guarded rfl _ rfl 54 false 83 rfl rfl [54] (by kernel_rfl) (fun a W hF hC hD => hD.1) fun a W hF hC hD K hK => ?_
    obtain ⟨c1, c2, c3, c4⟩ := hC
    have e9 : a.tmps.getD 9 undef = .pointer (some ⟨b9, 0, none⟩) := hF.2.2.2.1
    clear hF hD
    exact wpE _ (.tmp 9) rfl c4 e9 Try.underlying24 rfl Try.sz24 (hK _ _ rfl (Below.refl _ _))
  · refine Obl.guarded rfl _ rfl 54 false 83 rfl rfl [57, 58, 59, 54, 54] (by kernel_rfl) (fun a W hF hC hD => hD.2.2.2.1) fun a W hF hC hD K hK => ?_
    obtain ⟨c1, c2, c3, c4⟩ := hC
    have e86 : a.tmps.getD 86 undef = .pointer (some ⟨bf, 0, none⟩) := hD.1
    have e87 : a.tmps.getD 87 undef = vE (y) := hD.2.1
    have e88 : a.tmps.getD 88 undef = vE (z) := hD.2.2.1
    clear hF hD
    exact wp_callV #[a.tmps.getD 86 undef, a.tmps.getD 87 undef, a.tmps.getD 88 undef] #[.pointer (some ⟨bf, 0, none⟩), vE (y), vE (z)] (vE (((y) + (z)) % P)) (by kernel_rfl) (by rw [e86, e87, e88]) (fadd_c bf bm P n sz (y) (z) W c1 Hb.out Hc.out) fun w' hb => hK _ _ rfl hb
  · refine Obl.guarded rfl _ rfl 54 false 83 rfl rfl [55, 56, 60, 60, 54] (by kernel_rfl) (fun a W hF hC hD => hD.2.2.2.2.1) fun a W hF hC hD K hK => ?_
    obtain ⟨c1, c2, c3, c4⟩ := hC
    have e84 : a.tmps.getD 84 undef = .pointer (some ⟨bf, 0, none⟩) := hD.1
    have e85 : a.tmps.getD 85 undef = vE (x) := hD.2.1
    have e89 : a.tmps.getD 89 undef = vE (((y) + (z)) % P) := hD.2.2.1
    clear hF hD
    exact wp_callV #[a.tmps.getD 84 undef, a.tmps.getD 85 undef, a.tmps.getD 89 undef] #[.pointer (some ⟨bf, 0, none⟩), vE (x), vE (((y) + (z)) % P)] (vE ((x) * (((y) + (z)) % P) % P)) (by kernel_rfl) (by rw [e84, e85, e89]) (fmul_c bf bm P n sz (x) (((y) + (z)) % P) W c1 Ha.out (mlt.out _)) fun w' hb => hK _ _ rfl hb
  · refine Obl.guarded rfl _ rfl 54 false 83 rfl rfl [54] (by kernel_rfl) (fun a W hF hC hD => hD.1) fun a W hF hC hD K hK => ?_
    have e3 : a.tmps.getD 3 undef = .pointer (some ⟨bf, 0, none⟩) := hF.1
    clear hF hD hC
    go_simp
    exact hK _ _ rfl (Below.refl _ _)
  · refine Obl.guarded rfl _ rfl 54 false 83 rfl rfl [54] (by kernel_rfl) (fun a W hF hC hD => hD.1) fun a W hF hC hD K hK => ?_
    have e3 : a.tmps.getD 3 undef = .pointer (some ⟨bf, 0, none⟩) := hF.1
    clear hF hD hC
    go_simp
    exact hK _ _ rfl (Below.refl _ _)
  · refine Obl.guarded rfl _ rfl 54 false 83 rfl rfl [54] (by kernel_rfl) (fun a W hF hC hD => hD.1) fun a W hF hC hD K hK => ?_
    obtain ⟨c1, c2, c3, c4⟩ := hC
    have e7 : a.tmps.getD 7 undef = .pointer (some ⟨b7, 0, none⟩) := hF.2.1
    clear hF hD
    exact wpE _ (.tmp 7) rfl c2 e7 Try.underlying24 rfl Try.sz24 (hK _ _ rfl (Below.refl _ _))
  · refine Obl.guarded rfl _ rfl 54 false 83 rfl rfl [54] (by kernel_rfl) (fun a W hF hC hD => hD.1) fun a W hF hC hD K hK => ?_
    obtain ⟨c1, c2, c3, c4⟩ := hC
    have e8 : a.tmps.getD 8 undef = .pointer (some ⟨b8, 0, none⟩) := hF.2.2.1
    clear hF hD
    exact wpE _ (.tmp 8) rfl c3 e8 Try.underlying24 rfl Try.sz24 (hK _ _ rfl (Below.refl _ _))
  · refine Obl.guarded rfl _ rfl 54 false 83 rfl rfl [63, 64, 65, 61, 54] (by kernel_rfl) (fun a W hF hC hD => hD.2.2.2.2.1) fun a W hF hC hD K hK => ?_
    obtain ⟨c1, c2, c3, c4⟩ := hC
    have e92 : a.tmps.getD 92 undef = .pointer (some ⟨bf, 0, none⟩) := hD.1
    have e93 : a.tmps.getD 93 undef = vE (x) := hD.2.1
    have e94 : a.tmps.getD 94 undef = vE (y) := hD.2.2.1
    clear hF hD
    exact wp_callV #[a.tmps.getD 92 undef, a.tmps.getD 93 undef, a.tmps.getD 94 undef] #[.pointer (some ⟨bf, 0, none⟩), vE (x), vE (y)] (vE ((x) * (y) % P)) (by kernel_rfl) (by rw [e92, e93, e94]) (fmul_c bf bm P n sz (x) (y) W c1 Ha.out Hb.out) fun w' hb => hK _ _ rfl hb
  · refine Obl.guarded rfl _ rfl 54 false 83 rfl rfl [54] (by kernel_rfl) (fun a W hF hC hD => hD.1) fun a W hF hC hD K hK => ?_
    have e3 : a.tmps.getD 3 undef = .pointer (some ⟨bf, 0, none⟩) := hF.1
    clear hF hD hC
    go_simp
    exact hK _ _ rfl (Below.refl _ _)
  · refine Obl.guarded rfl _ rfl 54 false 83 rfl rfl [54] (by kernel_rfl) (fun a W hF hC hD => hD.1) fun a W hF hC hD K hK => ?_
    obtain ⟨c1, c2, c3, c4⟩ := hC
    have e7 : a.tmps.getD 7 undef = .pointer (some ⟨b7, 0, none⟩) := hF.2.1
    clear hF hD
    exact wpE _ (.tmp 7) rfl c2 e7 Try.underlying24 rfl Try.sz24 (hK _ _ rfl (Below.refl _ _))
  · refine Obl.guarded rfl _ rfl 54 false 83 rfl rfl [54] (by kernel_rfl) (fun a W hF hC hD => hD.1) fun a W hF hC hD K hK => ?_
    obtain ⟨c1, c2, c3, c4⟩ := hC
    have e9 : a.tmps.getD 9 undef = .pointer (some ⟨b9, 0, none⟩) := hF.2.2.2.1
    clear hF hD
    exact wpE _ (.tmp 9) rfl c4 e9 Try.underlying24 rfl Try.sz24 (hK _ _ rfl (Below.refl _ _))
  · refine Obl.guarded rfl _ rfl 54 false 83 rfl rfl [67, 68, 69, 66, 54] (by kernel_rfl) (fun a W hF hC hD => hD.2.2.2.2.1) fun a W hF hC hD K hK => ?_
    obtain ⟨c1, c2, c3, c4⟩ := hC
    have e96 : a.tmps.getD 96 undef = .pointer (some ⟨bf, 0, none⟩) := hD.1
    have e97 : a.tmps.getD 97 undef = vE (x) := hD.2.1
    have e98 : a.tmps.getD 98 undef = vE (z) := hD.2.2.1
    clear hF hD
    exact wp_callV #[a.tmps.getD 96 undef, a.tmps.getD 97 undef, a.tmps.getD 98 undef] #[.pointer (some ⟨bf, 0, none⟩), vE (x), vE (z)] (vE ((x) * (z) % P)) (by kernel_rfl) (by rw [e96, e97, e98]) (fmul_c bf bm P n sz (x) (z) W c1 Ha.out Hc.out) fun w' hb => hK _ _ rfl hb
  · refine Obl.guarded rfl _ rfl 54 false 83 rfl rfl [62, 66, 70, 70, 54] (by kernel_rfl) (fun a W hF hC hD => hD.2.2.2.2.1) fun a W hF hC hD K hK => ?_
    obtain ⟨c1, c2, c3, c4⟩ := hC
    have e91 : a.tmps.getD 91 undef = .pointer (some ⟨bf, 0, none⟩) := hD.1
    have e95 : a.tmps.getD 95 undef = vE ((x) * (y) % P) := hD.2.1
    have e99 : a.tmps.getD 99 undef = vE ((x) * (z) % P) := hD.2.2.1
    clear hF hD
    exact wp_callV #[a.tmps.getD 91 undef, a.tmps.getD 95 undef, a.tmps.getD 99 undef] #[.pointer (some ⟨bf, 0, none⟩), vE ((x) * (y) % P), vE ((x) * (z) % P)] (vE ((((x) * (y) % P) + ((x) * (z) % P)) % P)) (by kernel_rfl) (by rw [e91, e95, e99]) (fadd_c bf bm P n sz ((x) * (y) % P) ((x) * (z) % P) W c1 (mlt.out _) (mlt.out _)) fun w' hb => hK _ _ rfl hb
  · refine Obl.guarded rfl _ rfl 54 false 83 rfl rfl [61, 71, 54] (by kernel_rfl) (fun a W hF hC hD => hD.2.2.1) fun a W hF hC hD K hK => ?_
    have e90 : a.tmps.getD 90 undef = vE ((x) * (((y) + (z)) % P) % P) := hD.1
    have e100 : a.tmps.getD 100 undef = vE ((((x) * (y) % P) + ((x) * (z) % P)) % P) := hD.2.1
    clear hF hD hC
    have f0 := eqv_of (pl_dist P x y z)
    exact wp_neqN (.tmp 90) (.tmp 100) _ rfl e90 e100 (hK _ _ (congrArg (fun t => Value.bool (!t)) f0) (Below.refl _ _))
  · refine Obl.plain rfl _ rfl rfl [54, 72] (by kernel_rfl) fun a W hF hC hD K hK => ?_
    have e83 : a.tmps.getD 83 undef = .bool false := hD.1
    have e101 : a.tmps.getD 101 undef = .bool false := hD.2.1
    clear hF hD hC
    exact wp_pick (.tmp 83) (.const (.bool true)) (.tmp 101) rfl (b := false) e83 e101 (hK _ _ rfl (Below.refl _ _))
  rintro w8 hB8 hC8 _ rfl _ rfl _ rfl _ rfl _ rfl _ rfl _ rfl _ rfl _ rfl _ rfl _ rfl _ rfl _ rfl _ rfl _ rfl _ rfl _ rfl _ rfl _ rfl _ rfl _ rfl _ rfl _ rfl _ rfl _ rfl _ rfl _ rfl _ rfl _ rfl _ rfl _ rfl _ rfl _ rfl _ rfl _ rfl _ rfl _ rfl _ rfl _ rfl _ rfl _ rfl _ rfl _ rfl _ rfl _ rfl _ rfl _ rfl _ rfl _ rfl _ rfl _ rfl _ rfl _ rfl _ rfl _ rfl _ rfl _ rfl _ rfl _ rfl _ rfl _ rfl _ rfl _ rfl _ rfl _ rfl _ rfl _ rfl _ rfl _ rfl _ rfl _ rfl _ rfl _ rfl _ rfl
  change Below _ _ _ at hB8
  change wpList _ _ _ _ _ _
  simp only [List.drop_succ_cons, List.drop_zero, Act.put, List.setIfInBounds_toArray, List.set_cons_zero, List.set_cons_succ]
  have HB8 := hide (below_next HB7.out hB8)
  have HF8 := hide (HF7.out.next hB8)
  have HA8 := hide (HA7.out.next hB8)
  have HC8 := hide (HC7.out.next hB8)
  have HD8 := hide (HD7.out.next hB8)
  clear hB8 hC8 HB7 HF7 HA7 HC7 HD7
  go_upto_region 7 with fail
  refine region_do 42 175 [fun v _ => v = .pointer (some ⟨bf, 0, none⟩), fun v _ => v = vE (x), fun v _ => v = .pointer (some ⟨bf, 0, none⟩), fun v _ => v = vE (x), fun v _ => v = vE (ng P (x) % P), fun v _ => v = vE (((x) + (ng P (x) % P)) % P), fun v _ => v = vE (0), fun v _ => v = .bool false, fun v _ => v = .bool false, fun v _ => v = .pointer (some ⟨bf, 0, none⟩), fun v _ => v = vE (x), fun v _ => v = vE (y), fun v _ => v = vE (((x) + ng P (y)) % P), fun v _ => v = .pointer (some ⟨bf, 0, none⟩), fun v _ => v = vE (x), fun v _ => v = .pointer (some ⟨bf, 0, none⟩), fun v _ => v = vE (y), fun v _ => v = vE (ng P (y) % P), fun v _ => v = vE (((x) + (ng P (y) % P)) % P), fun v _ => v = .bool false, fun v _ => v = .bool false, fun v _ => v = .bool false, fun v _ => v = .pointer (some ⟨bf, 0, none⟩), fun v _ => v = vE (x), fun v _ => v = vE (1), fun v _ => v = vE ((x) * (1) % P), fun v _ => v = .pointer (some ⟨bf, 0, none⟩), fun v _ => v = vE (x), fun v _ => v = vE ((x) % P), fun v _ => v = .bool false, fun v _ => v = .bool false, fun v _ => v = .bool false, fun v _ => v = .pointer (some ⟨bf, 0, none⟩), fun v _ => v = .pointer (some ⟨bf, 0, none⟩), fun v _ => v = vE (x), fun v _ => v = vE ((x) % P), fun v _ => v = vE (((x) % P) % P), fun v _ => v = .pointer (some ⟨bf, 0, none⟩), fun v _ => v = vE (x), fun v _ => v = vE ((x) % P), fun v _ => v = .bool false, fun v _ => v = .bool false]
    [(3, .pointer (some ⟨bf, 0, none⟩)), (7, .pointer (some ⟨b7, 0, none⟩)), (8, .pointer (some ⟨b8, 0, none⟩))] (fun w' => FQ w' bf bm P n sz ∧ VB w' b7 24 (ve x) ∧ VB w' b8 24 (ve y) ∧ VB w' b9 24 (ve z)) (fun w' => True) 999 none (by kernel_rfl) (by kernel_rfl) rfl rfl
    (.cons (Fact.eq _) rfl (.cons (Fact.eq _) rfl (.cons (Fact.eq _) rfl (.cons (Fact.eq _) rfl (.cons (Fact.eq _) rfl (.cons (Fact.eq _) rfl (.cons (Fact.eq _) rfl (.cons (Fact.eq _) rfl (.cons (Fact.eq _) rfl (.cons (Fact.eq _) rfl (.cons (Fact.eq _) rfl (.cons (Fact.eq _) rfl (.cons (Fact.eq _) rfl (.cons (Fact.eq _) rfl (.cons (Fact.eq _) rfl (.cons (Fact.eq _) rfl (.cons (Fact.eq _) rfl (.cons (Fact.eq _) rfl (.cons (Fact.eq _) rfl (.cons (Fact.eq _) rfl (.cons (Fact.eq _) rfl (.cons (Fact.eq _) rfl (.cons (Fact.eq _) rfl (.cons (Fact.eq _) rfl (.cons (Fact.eq _) rfl (.cons (Fact.eq _) rfl (.cons (Fact.eq _) rfl (.cons (Fact.eq _) rfl (.cons (Fact.eq _) rfl (.cons (Fact.eq _) rfl (.cons (Fact.eq _) rfl (.cons (Fact.eq _) rfl (.cons (Fact.eq _) rfl (.cons (Fact.eq _) rfl (.cons (Fact.eq _) rfl (.cons (Fact.eq _) rfl (.cons (Fact.eq _) rfl (.cons (Fact.eq _) rfl (.cons (Fact.eq _) rfl (.cons (Fact.eq _) rfl (.cons (Fact.eq _) rfl (.cons (Fact.eq _) rfl (.nil _))))))))))))))))))))))))))))))))))))))))))) (fun w' h => ⟨HF8.out.next h, HA8.out.next h, HC8.out.next h, HD8.out.next h⟩) (fun w' h => trivial) (by kernel_rfl) ⟨rfl, rfl, rfl, trivial⟩ (.cons ?_ (.cons ?_ (.cons ?_ (.cons ?_ (.cons ?_ (.cons ?_ (.cons ?_ (.cons ?_ (.cons ?_ (.cons ?_ (.cons ?_ (.cons ?_ (.cons ?_ (.cons ?_ (.cons ?_ (.cons ?_ (.cons ?_ (.cons ?_ (.cons ?_ (.cons ?_ (.cons ?_ (.cons ?_ (.cons ?_ (.cons ?_ (.cons ?_ (.cons ?_ (.cons ?_ (.cons ?_ (.cons ?_ (.cons ?_ (.cons ?_ (.cons ?_ (.cons ?_ (.cons ?_ (.cons ?_ (.cons ?_ (.cons ?_ (.cons ?_ (.cons ?_ (.cons ?_ (.cons ?_ (.cons ?_ .nil)))))))))))))))))))))))))))))))))))))))))) ?_
  · refine Obl.plain rfl _ rfl rfl [] (by kernel_rfl) fun a W hF hC hD K hK => ?_
    have e3 : a.tmps.getD 3 undef = .pointer (some ⟨bf, 0, none⟩) := hF.1
    clear hF hD hC
    go_simp
    exact hK _ _ rfl (Below.refl _ _)
  · refine Obl.plain rfl _ rfl rfl [] (by kernel_rfl) fun a W hF hC hD K hK => ?_
    obtain ⟨c1, c2, c3, c4⟩ := hC
    have e7 : a.tmps.getD 7 undef = .pointer (some ⟨b7, 0, none⟩) := hF.2.1
    clear hF hD
    exact wpE _ (.tmp 7) rfl c2 e7 Try.underlying24 rfl Try.sz24 (hK _ _ rfl (Below.refl _ _))
  · refine Obl.plain rfl _ rfl rfl [] (by kernel_rfl) fun a W hF hC hD K hK => ?_
    have e3 : a.tmps.getD 3 undef = .pointer (some ⟨bf, 0, none⟩) := hF.1
    clear hF hD hC
    go_simp
    exact hK _ _ rfl (Below.refl _ _)
  · refine Obl.plain rfl _ rfl rfl [] (by kernel_rfl) fun a W hF hC hD K hK => ?_
    obtain ⟨c1, c2, c3, c4⟩ := hC
    have e7 : a.tmps.getD 7 undef = .pointer (some ⟨b7, 0, none⟩) := hF.2.1
    clear hF hD
    exact wpE _ (.tmp 7) rfl c2 e7 Try.underlying24 rfl Try.sz24 (hK _ _ rfl (Below.refl _ _))
  · refine Obl.plain rfl _ rfl rfl [2, 3] (by kernel_rfl) fun a W hF hC hD K hK => ?_
    obtain ⟨c1, c2, c3, c4⟩ := hC
    have e105 : a.tmps.getD 105 undef = .pointer (some ⟨bf, 0, none⟩) := hD.1
    have e106 : a.tmps.getD 106 undef = vE (x) := hD.2.1
    clear hF hD
    exact wp_callV #[a.tmps.getD 105 undef, a.tmps.getD 106 undef] #[.pointer (some ⟨bf, 0, none⟩), vE (x)] (vE (ng P (x) % P)) (by kernel_rfl) (by rw [e105, e106]) (fneg_c bf bm P n sz (x) W c1 Ha.out) fun w' hb => hK _ _ rfl hb
  · refine Obl.plain rfl _ rfl rfl [0, 1, 4, 4] (by kernel_rfl) fun a W hF hC hD K hK => ?_
    obtain ⟨c1, c2, c3, c4⟩ := hC
    have e103 : a.tmps.getD 103 undef = .pointer (some ⟨bf, 0, none⟩) := hD.1
    have e104 : a.tmps.getD 104 undef = vE (x) := hD.2.1
    have e107 : a.tmps.getD 107 undef = vE (ng P (x) % P) := hD.2.2.1
    clear hF hD
    exact wp_callV #[a.tmps.getD 103 undef, a.tmps.getD 104 undef, a.tmps.getD 107 undef] #[.pointer (some ⟨bf, 0, none⟩), vE (x), vE (ng P (x) % P)] (vE (((x) + (ng P (x) % P)) % P)) (by kernel_rfl) (by rw [e103, e104, e107]) (fadd_c bf bm P n sz (x) (ng P (x) % P) W c1 Ha.out (mlt.out _)) fun w' hb => hK _ _ rfl hb
  · refine Obl.plain rfl _ rfl rfl [] (by kernel_rfl) fun a W hF hC hD K hK => ?_
    clear hF hD hC
    exact wp_value (vE (0)) (by kernel_rfl) (hK _ _ rfl (Below.refl _ _))
  · refine Obl.plain rfl _ rfl rfl [5, 6] (by kernel_rfl) fun a W hF hC hD K hK => ?_
    have e108 : a.tmps.getD 108 undef = vE (((x) + (ng P (x) % P)) % P) := hD.1
    have e109 : a.tmps.getD 109 undef = vE (0) := hD.2.1
    clear hF hD hC
    have f0 := eqv_of (pl_neg hP0.out x)
    exact wp_neqN (.tmp 108) (.tmp 109) _ rfl e108 e109 (hK _ _ (congrArg (fun t => Value.bool (!t)) f0) (Below.refl _ _))
  · refine Obl.plain rfl _ rfl rfl [7, 5] (by kernel_rfl) fun a W hF hC hD K hK => ?_
    have e110 : a.tmps.getD 110 undef = .bool false := hD.1
    clear hF hD hC
    go_simp
    exact hK _ _ rfl (Below.refl _ _)
  · refine Obl.guarded rfl _ rfl 8 false 111 rfl rfl [8] (by kernel_rfl) (fun a W hF hC hD => hD.1) fun a W hF hC hD K hK => ?_
    have e3 : a.tmps.getD 3 undef = .pointer (some ⟨bf, 0, none⟩) := hF.1
    clear hF hD hC
    go_simp
    exact hK _ _ rfl (Below.refl _ _)
  · refine Obl.guarded rfl _ rfl 8 false 111 rfl rfl [8] (by kernel_rfl) (fun a W hF hC hD => hD.1) fun a W hF hC hD K hK => ?_
    obtain ⟨c1, c2, c3, c4⟩ := hC
    have e7 : a.tmps.getD 7 undef = .pointer (some ⟨b7, 0, none⟩) := hF.2.1
    clear hF hD
    exact wpE _ (.tmp 7) rfl c2 e7 Try.underlying24 rfl Try.sz24 (hK _ _ rfl (Below.refl _ _))
  · refine Obl.guarded rfl _ rfl 8 false 111 rfl rfl [8] (by kernel_rfl) (fun a W hF hC hD => hD.1) fun a W hF hC hD K hK => ?_
    obtain ⟨c1, c2, c3, c4⟩ := hC
    have e8 : a.tmps.getD 8 undef = .pointer (some ⟨b8, 0, none⟩) := hF.2.2.1
    clear hF hD
    exact wpE _ (.tmp 8) rfl c3 e8 Try.underlying24 rfl Try.sz24 (hK _ _ rfl (Below.refl _ _))
  · refine Obl.guarded rfl _ rfl 8 false 111 rfl rfl [9, 10, 11, 8, 8] (by kernel_rfl) (fun a W hF hC hD => hD.2.2.2.1) fun a W hF hC hD K hK => ?_
    obtain ⟨c1, c2, c3, c4⟩ := hC
    have e112 : a.tmps.getD 112 undef = .pointer (some ⟨bf, 0, none⟩) := hD.1
    have e113 : a.tmps.getD 113 undef = vE (x) := hD.2.1
    have e114 : a.tmps.getD 114 undef = vE (y) := hD.2.2.1
    clear hF hD
    exact wp_callV #[a.tmps.getD 112 undef, a.tmps.getD 113 undef, a.tmps.getD 114 undef] #[.pointer (some ⟨bf, 0, none⟩), vE (x), vE (y)] (vE (((x) + ng P (y)) % P)) (by kernel_rfl) (by rw [e112, e113, e114]) (fsub_c bf bm P n sz (x) (y) W c1 Ha.out Hb.out) fun w' hb => hK _ _ rfl hb
  · refine Obl.guarded rfl _ rfl 8 false 111 rfl rfl [8] (by kernel_rfl) (fun a W hF hC hD => hD.1) fun a W hF hC hD K hK => ?_
    have e3 : a.tmps.getD 3 undef = .pointer (some ⟨bf, 0, none⟩) := hF.1
    clear hF hD hC
    go_simp
    exact hK _ _ rfl (Below.refl _ _)
  · refine Obl.guarded rfl _ rfl 8 false 111 rfl rfl [8] (by kernel_rfl) (fun a W hF hC hD => hD.1) fun a W hF hC hD K hK => ?_
    obtain ⟨c1, c2, c3, c4⟩ := hC
    have e7 : a.tmps.getD 7 undef = .pointer (some ⟨b7, 0, none⟩) := hF.2.1
    clear hF hD
    exact wpE _ (.tmp 7) rfl c2 e7 Try.underlying24 rfl Try.sz24 (hK _ _ rfl (Below.refl _ _))
  · refine Obl.guarded rfl _ rfl 8 false 111 rfl rfl [8] (by kernel_rfl) (fun a W hF hC hD => hD.1) fun a W hF hC hD K hK => ?_
    have e3 : a.tmps.getD 3 undef = .pointer (some ⟨bf, 0, none⟩) := hF.1
    clear hF hD hC
    go_simp
    exact hK _ _ rfl (Below.refl _ _)
  · refine Obl.guarded rfl _ rfl 8 false 111 rfl rfl [8] (by kernel_rfl) (fun a W hF hC hD => hD.1) fun a W hF hC hD K hK => ?_
    obtain ⟨c1, c2, c3, c4⟩ := hC
    have e8 : a.tmps.getD 8 undef = .pointer (some ⟨b8, 0, none⟩) := hF.2.2.1
    clear hF hD
    exact wpE _ (.tmp 8) rfl c3 e8 Try.underlying24 rfl Try.sz24 (hK _ _ rfl (Below.refl _ _))
  · refine Obl.guarded rfl _ rfl 8 false 111 rfl rfl [15, 16, 12, 8] (by kernel_rfl) (fun a W hF hC hD => hD.2.2.2.1) fun a W hF hC hD K hK => ?_
    obtain ⟨c1, c2, c3, c4⟩ := hC
    have e118 : a.tmps.getD 118 undef = .pointer (some ⟨bf, 0, none⟩) := hD.1
    have e119 : a.tmps.getD 119 undef = vE (y) := hD.2.1
    clear hF hD
    exact wp_callV #[a.tmps.getD 118 undef, a.tmps.getD 119 undef] #[.pointer (some ⟨bf, 0, none⟩), vE (y)] (vE (ng P (y) % P)) (by kernel_rfl) (by rw [e118, e119]) (fneg_c bf bm P n sz (y) W c1 Hb.out) fun w' hb => hK _ _ rfl hb
  · refine Obl.guarded rfl _ rfl 8 false 111 rfl rfl [13, 14, 17, 17, 8] (by kernel_rfl) (fun a W hF hC hD => hD.2.2.2.2.1) fun a W hF hC hD K hK => ?_
    obtain ⟨c1, c2, c3, c4⟩ := hC
    have e116 : a.tmps.getD 116 undef = .pointer (some ⟨bf, 0, none⟩) := hD.1
    have e117 : a.tmps.getD 117 undef = vE (x) := hD.2.1
    have e120 : a.tmps.getD 120 undef = vE (ng P (y) % P) := hD.2.2.1
    clear hF hD
    exact wp_callV #[a.tmps.getD 116 undef, a.tmps.getD 117 undef, a.tmps.getD 120 undef] #[.pointer (some ⟨bf, 0, none⟩), vE (x), vE (ng P (y) % P)] (vE (((x) + (ng P (y) % P)) % P)) (by kernel_rfl) (by rw [e116, e117, e120]) (fadd_c bf bm P n sz (x) (ng P (y) % P) W c1 Ha.out (mlt.out _)) fun w' hb => hK _ _ rfl hb
  · refine Obl.guarded rfl _ rfl 8 false 111 rfl rfl [12, 18, 8] (by kernel_rfl) (fun a W hF hC hD => hD.2.2.1) fun a W hF hC hD K hK => ?_
    have e115 : a.tmps.getD 115 undef = vE (((x) + ng P (y)) % P) := hD.1
    have e121 : a.tmps.getD 121 undef = vE (((x) + (ng P (y) % P)) % P) := hD.2.1
    clear hF hD hC
    have f0 := eqv_of (pl_sub P x y)
    exact wp_neqN (.tmp 115) (.tmp 121) _ rfl e115 e121 (hK _ _ (congrArg (fun t => Value.bool (!t)) f0) (Below.refl _ _))
  · refine Obl.plain rfl _ rfl rfl [8, 19] (by kernel_rfl) fun a W hF hC hD K hK => ?_
    have e111 : a.tmps.getD 111 undef = .bool false := hD.1
    have e122 : a.tmps.getD 122 undef = .bool false := hD.2.1
    clear hF hD hC
    exact wp_pick (.tmp 111) (.const (.bool true)) (.tmp 122) rfl (b := false) e111 e122 (hK _ _ rfl (Below.refl _ _))
  · refine Obl.plain rfl _ rfl rfl [20, 18] (by kernel_rfl) fun a W hF hC hD K hK => ?_
    have e123 : a.tmps.getD 123 undef = .bool false := hD.1
    clear hF hD hC
    go_simp
    exact hK _ _ rfl (Below.refl _ _)
  · refine Obl.guarded rfl _ rfl 21 false 124 rfl rfl [21] (by kernel_rfl) (fun a W hF hC hD => hD.1) fun a W hF hC hD K hK => ?_
    have e3 : a.tmps.getD 3 undef = .pointer (some ⟨bf, 0, none⟩) := hF.1
    clear hF hD hC
    go_simp
    exact hK _ _ rfl (Below.refl _ _)
  · refine Obl.guarded rfl _ rfl 21 false 124 rfl rfl [21] (by kernel_rfl) (fun a W hF hC hD => hD.1) fun a W hF hC hD K hK => ?_
    obtain ⟨c1, c2, c3, c4⟩ := hC
    have e7 : a.tmps.getD 7 undef = .pointer (some ⟨b7, 0, none⟩) := hF.2.1
    clear hF hD
    exact wpE _ (.tmp 7) rfl c2 e7 Try.underlying24 rfl Try.sz24 (hK _ _ rfl (Below.refl _ _))
  · refine Obl.guarded rfl _ rfl 21 false 124 rfl rfl [21] (by kernel_rfl) (fun a W hF hC hD => hD.1) fun a W hF hC hD K hK => ?_
    clear hF hD hC
    exact wp_value (vE (1)) (by kernel_rfl) (hK _ _ rfl (Below.refl _ _))
  · refine Obl.guarded rfl _ rfl 21 false 124 rfl rfl [22, 23, 24, 21, 21] (by kernel_rfl) (fun a W hF hC hD => hD.2.2.2.1) fun a W hF hC hD K hK => ?_
    obtain ⟨c1, c2, c3, c4⟩ := hC
    have e125 : a.tmps.getD 125 undef = .pointer (some ⟨bf, 0, none⟩) := hD.1
    have e126 : a.tmps.getD 126 undef = vE (x) := hD.2.1
    have e127 : a.tmps.getD 127 undef = vE (1) := hD.2.2.1
    clear hF hD
    exact wp_callV #[a.tmps.getD 125 undef, a.tmps.getD 126 undef, a.tmps.getD 127 undef] #[.pointer (some ⟨bf, 0, none⟩), vE (x), vE (1)] (vE ((x) * (1) % P)) (by kernel_rfl) (by rw [e125, e126, e127]) (fmul_c bf bm P n sz (x) (1) W c1 Ha.out (by decide +kernel)) fun w' hb => hK _ _ rfl hb
  · refine Obl.guarded rfl _ rfl 21 false 124 rfl rfl [21] (by kernel_rfl) (fun a W hF hC hD => hD.1) fun a W hF hC hD K hK => ?_
    have e3 : a.tmps.getD 3 undef = .pointer (some ⟨bf, 0, none⟩) := hF.1
    clear hF hD hC
    go_simp
    exact hK _ _ rfl (Below.refl _ _)
  · refine Obl.guarded rfl _ rfl 21 false 124 rfl rfl [21] (by kernel_rfl) (fun a W hF hC hD => hD.1) fun a W hF hC hD K hK => ?_
    obtain ⟨c1, c2, c3, c4⟩ := hC
    have e7 : a.tmps.getD 7 undef = .pointer (some ⟨b7, 0, none⟩) := hF.2.1
    clear hF hD
    exact wpE _ (.tmp 7) rfl c2 e7 Try.underlying24 rfl Try.sz24 (hK _ _ rfl (Below.refl _ _))
  · refine Obl.guarded rfl _ rfl 21 false 124 rfl rfl [26, 27, 25, 21] (by kernel_rfl) (fun a W hF hC hD => hD.2.2.2.1) fun a W hF hC hD K hK => ?_
    obtain ⟨c1, c2, c3, c4⟩ := hC
    have e129 : a.tmps.getD 129 undef = .pointer (some ⟨bf, 0, none⟩) := hD.1
    have e130 : a.tmps.getD 130 undef = vE (x) := hD.2.1
    clear hF hD
    exact wp_callV #[a.tmps.getD 129 undef, a.tmps.getD 130 undef] #[.pointer (some ⟨bf, 0, none⟩), vE (x)] (vE ((x) % P)) (by kernel_rfl) (by rw [e129, e130]) (freduce_c bf bm P n sz (x) W c1 Ha.out) fun w' hb => hK _ _ rfl hb
  · refine Obl.guarded rfl _ rfl 21 false 124 rfl rfl [25, 28, 21] (by kernel_rfl) (fun a W hF hC hD => hD.2.2.1) fun a W hF hC hD K hK => ?_
    have e128 : a.tmps.getD 128 undef = vE ((x) * (1) % P) := hD.1
    have e131 : a.tmps.getD 131 undef = vE ((x) % P) := hD.2.1
    clear hF hD hC
    have f0 := eqv_of (pl_one P x)
    exact wp_neqN (.tmp 128) (.tmp 131) _ rfl e128 e131 (hK _ _ (congrArg (fun t => Value.bool (!t)) f0) (Below.refl _ _))
  · refine Obl.plain rfl _ rfl rfl [21, 29] (by kernel_rfl) fun a W hF hC hD K hK => ?_
    have e124 : a.tmps.getD 124 undef = .bool false := hD.1
    have e132 : a.tmps.getD 132 undef = .bool false := hD.2.1
    clear hF hD hC
    exact wp_pick (.tmp 124) (.const (.bool true)) (.tmp 132) rfl (b := false) e124 e132 (hK _ _ rfl (Below.refl _ _))
  · refine Obl.plain rfl _ rfl rfl [30, 28] (by kernel_rfl) fun a W hF hC hD K hK => ?_
    have e133 : a.tmps.getD 133 undef = .bool false := hD.1
    clear hF hD hC
    go_simp
    exact hK _ _ rfl (Below.refl _ _)
  · refine Obl.guarded rfl _ rfl 31 false 134 rfl rfl [31] (by kernel_rfl) (fun a W hF hC hD => hD.1) fun a W hF hC hD K hK => ?_
    have e3 : a.tmps.getD 3 undef = .pointer (some ⟨bf, 0, none⟩) := hF.1
    clear hF hD hC
    go_simp
    exact hK _ _ rfl (Below.refl _ _)
  · refine Obl.guarded rfl _ rfl 31 false 134 rfl rfl [31] (by kernel_rfl) (fun a W hF hC hD => hD.1) fun a W hF hC hD K hK => ?_
    have e3 : a.tmps.getD 3 undef = .pointer (some ⟨bf, 0, none⟩) := hF.1
    clear hF hD hC
    go_simp
    exact hK _ _ rfl (Below.refl _ _)
  · refine Obl.guarded rfl _ rfl 31 false 134 rfl rfl [31] (by kernel_rfl) (fun a W hF hC hD => hD.1) fun a W hF hC hD K hK => ?_
    obtain ⟨c1, c2, c3, c4⟩ := hC
    have e7 : a.tmps.getD 7 undef = .pointer (some ⟨b7, 0, none⟩) := hF.2.1
    clear hF hD
    exact wpE _ (.tmp 7) rfl c2 e7 Try.underlying24 rfl Try.sz24 (hK _ _ rfl (Below.refl _ _))
  · refine Obl.guarded rfl _ rfl 31 false 134 rfl rfl [33, 34, 31, 31] (by kernel_rfl) (fun a W hF hC hD => hD.2.2.1) fun a W hF hC hD K hK => ?_
    obtain ⟨c1, c2, c3, c4⟩ := hC
    have e136 : a.tmps.getD 136 undef = .pointer (some ⟨bf, 0, none⟩) := hD.1
    have e137 : a.tmps.getD 137 undef = vE (x) := hD.2.1
    clear hF hD
    exact wp_callV #[a.tmps.getD 136 undef, a.tmps.getD 137 undef] #[.pointer (some ⟨bf, 0, none⟩), vE (x)] (vE ((x) % P)) (by kernel_rfl) (by rw [e136, e137]) (freduce_c bf bm P n sz (x) W c1 Ha.out) fun w' hb => hK _ _ rfl hb
  · refine Obl.guarded rfl _ rfl 31 false 134 rfl rfl [32, 35, 35, 31] (by kernel_rfl) (fun a W hF hC hD => hD.2.2.2.1) fun a W hF hC hD K hK => ?_
    obtain ⟨c1, c2, c3, c4⟩ := hC
    have e135 : a.tmps.getD 135 undef = .pointer (some ⟨bf, 0, none⟩) := hD.1
    have e138 : a.tmps.getD 138 undef = vE ((x) % P) := hD.2.1
    clear hF hD
    exact wp_callV #[a.tmps.getD 135 undef, a.tmps.getD 138 undef] #[.pointer (some ⟨bf, 0, none⟩), vE ((x) % P)] (vE (((x) % P) % P)) (by kernel_rfl) (by rw [e135, e138]) (freduce_c bf bm P n sz ((x) % P) W c1 (mlt.out _)) fun w' hb => hK _ _ rfl hb
  · refine Obl.guarded rfl _ rfl 31 false 134 rfl rfl [31] (by kernel_rfl) (fun a W hF hC hD => hD.1) fun a W hF hC hD K hK => ?_
    have e3 : a.tmps.getD 3 undef = .pointer (some ⟨bf, 0, none⟩) := hF.1
    clear hF hD hC
    go_simp
    exact hK _ _ rfl (Below.refl _ _)
  · refine Obl.guarded rfl _ rfl 31 false 134 rfl rfl [31] (by kernel_rfl) (fun a W hF hC hD => hD.1) fun a W hF hC hD K hK => ?_
    obtain ⟨c1, c2, c3, c4⟩ := hC
    have e7 : a.tmps.getD 7 undef = .pointer (some ⟨b7, 0, none⟩) := hF.2.1
    clear hF hD
    exact wpE _ (.tmp 7) rfl c2 e7 Try.underlying24 rfl Try.sz24 (hK _ _ rfl (Below.refl _ _))
  · refine Obl.guarded rfl _ rfl 31 false 134 rfl rfl [37, 38, 36, 31] (by kernel_rfl) (fun a W hF hC hD => hD.2.2.2.1) fun a W hF hC hD K hK => ?_
    obtain ⟨c1, c2, c3, c4⟩ := hC
    have e140 : a.tmps.getD 140 undef = .pointer (some ⟨bf, 0, none⟩) := hD.1
    have e141 : a.tmps.getD 141 undef = vE (x) := hD.2.1
    clear hF hD
    exact wp_callV #[a.tmps.getD 140 undef, a.tmps.getD 141 undef] #[.pointer (some ⟨bf, 0, none⟩), vE (x)] (vE ((x) % P)) (by kernel_rfl) (by rw [e140, e141]) (freduce_c bf bm P n sz (x) W c1 Ha.out) fun w' hb => hK _ _ rfl hb
  · refine Obl.guarded rfl _ rfl 31 false 134 rfl rfl [36, 39, 31] (by kernel_rfl) (fun a W hF hC hD => hD.2.2.1) fun a W hF hC hD K hK => ?_
    have e139 : a.tmps.getD 139 undef = vE (((x) % P) % P) := hD.1
    have e142 : a.tmps.getD 142 undef = vE ((x) % P) := hD.2.1
    clear hF hD hC
    have f0 := eqv_of (pl_red P x)
    exact wp_neqN (.tmp 139) (.tmp 142) _ rfl e139 e142 (hK _ _ (congrArg (fun t => Value.bool (!t)) f0) (Below.refl _ _))
  · refine Obl.plain rfl _ rfl rfl [31, 40] (by kernel_rfl) fun a W hF hC hD K hK => ?_
    have e134 : a.tmps.getD 134 undef = .bool false := hD.1
    have e143 : a.tmps.getD 143 undef = .bool false := hD.2.1
    clear hF hD hC
    exact wp_pick (.tmp 134) (.const (.bool true)) (.tmp 143) rfl (b := false) e134 e143 (hK _ _ rfl (Below.refl _ _))
  rintro w9 hB9 hC9 _ rfl _ rfl _ rfl _ rfl _ rfl _ rfl _ rfl _ rfl _ rfl _ rfl _ rfl _ rfl _ rfl _ rfl _ rfl _ rfl _ rfl _ rfl _ rfl _ rfl _ rfl _ rfl _ rfl _ rfl _ rfl _ rfl _ rfl _ rfl _ rfl _ rfl _ rfl _ rfl _ rfl _ rfl _ rfl _ rfl _ rfl _ rfl _ rfl _ rfl _ rfl _ rfl
  change Below _ _ _ at hB9
  change wpList _ _ _ _ _ _
  simp only [List.drop_succ_cons, List.drop_zero, Act.put, List.setIfInBounds_toArray, List.set_cons_zero, List.set_cons_succ]
  have HB9 := hide (below_next HB8.out hB9)
  have HF9 := hide (HF8.out.next hB9)
  have HA9 := hide (HA8.out.next hB9)
  have HC9 := hide (HC8.out.next hB9)
  have HD9 := hide (HD8.out.next hB9)
  clear hB9 hC9 HB8 HF8 HA8 HC8 HD8
  go_upto_region 9 with fail
  have Hinv := hide (finv_c bf bm P n sz x w9 HF9.out Ha.out)
  by_cases h0 : x % P = 0
  · have hd : decide (x % P ≠ 0) = false := decide_eq_false (fun h => h h0)
    rw [hd] at Hinv
    clear hd
    go_upto_region 10 with (first
      | ((with_reducible refine loadT 24 (v := x) (o := ⟨some 147, _, _, _, _, _⟩) ?_ (.tmp 7) ?_ ?_ HA9.out Try.underlying24 ?_ Try.sz24 ?_); rfl; rfl; rfl; rfl)
      | (go_at_call 27; refine Hinv.out.mono ?_; rintro e w10 ⟨rfl, hb10⟩; replace hb10 := hide hb10)
      | ((with_reducible refine allocT 24 (o := ⟨some 10, _, _, _, _, _⟩) ?_ ?_ Try.zr24 ?_); rfl; rfl; intro w10a b10 hv10 hn10)
      | ((with_reducible refine storeT 24 (v' := x ^ (P - 2) % P) (o := ⟨none, _, _, _, _, _⟩) ?_ (.tmp 10) (.tmp 149) ?_ ?_ ?_ hv10 Try.sz24 ?_); rfl; rfl; rfl; rfl; intro w11 hv11 ho11))
    have hlt : ∀ {bb t L}, VB w9 bb t L → bb ≠ b10 := fun h => Nat.ne_of_lt (Nat.lt_of_lt_of_le (h.next hb10.out).lt hn10.lo)
    have HB11 := hide (Only.below (below_next (below_next HB9.out hb10.out) hn10.bl) ho11.out (Nat.le_trans (Nat.le_trans HB9.out.size hb10.out.size) hn10.lo))
    have HF11 := hide (((HF9.out.next hb10.out).next hn10.bl).only ho11.out (hlt HF9.out.vb) (hlt HF9.out.fb.vb))
    have HA11 := hide (ho11.out.vb ((HA9.out.next hb10.out).next hn10.bl) (hlt HA9.out))
    have HC11 := hide (ho11.out.vb ((HC9.out.next hb10.out).next hn10.bl) (hlt HC9.out))
    have HE11 := hide hv11
    clear hv10 hn10 ho11 hb10 hv11 hlt HB9 HF9 HA9 HC9 HD9 Hinv
    refine region_do 24 175 [fun v _ => v = .bool false, fun v _ => v = .pointer (some ⟨bf, 0, none⟩), fun v _ => v = vE (x), fun v _ => v = vE ((x) % P), fun v _ => v = vE (0), fun v _ => v = .bool false, fun v _ => v = .bool true, fun v _ => v = .bool true, fun v _ => v = .bool false, fun v _ => v = .bool true, fun v _ => v = .bool true, fun v _ => v = undef, fun v _ => v = undef, fun v _ => v = undef, fun v _ => v = undef, fun v _ => v = undef, fun v _ => v = undef, fun v _ => v = undef, fun v _ => v = undef, fun v _ => v = undef, fun v _ => v = undef, fun v _ => v = undef, fun v _ => v = .bool true, fun v _ => v = .bool true]
      [(11, .bool false), (3, .pointer (some ⟨bf, 0, none⟩)), (7, .pointer (some ⟨b7, 0, none⟩)), (8, .pointer (some ⟨b8, 0, none⟩)), (10, .pointer (some ⟨b10, 0, none⟩))] (fun w' => FQ w' bf bm P n sz ∧ VB w' b7 24 (ve x) ∧ VB w' b8 24 (ve y) ∧ VB w' b10 24 (ve (x ^ (P - 2) % P))) (fun w' => True) 999 none (by kernel_rfl) (by kernel_rfl) rfl rfl
      (.cons (Fact.eq _) rfl (.cons (Fact.eq _) rfl (.cons (Fact.eq _) rfl (.cons (Fact.eq _) rfl (.cons (Fact.eq _) rfl (.cons (Fact.eq _) rfl (.cons (Fact.eq _) rfl (.cons (Fact.eq _) rfl (.cons (Fact.eq _) rfl (.cons (Fact.eq _) rfl (.cons (Fact.eq _) rfl (.cons (Fact.eq _) rfl (.cons (Fact.eq _) rfl (.cons (Fact.eq _) rfl (.cons (Fact.eq _) rfl (.cons (Fact.eq _) rfl (.cons (Fact.eq _) rfl (.cons (Fact.eq _) rfl (.cons (Fact.eq _) rfl (.cons (Fact.eq _) rfl (.cons (Fact.eq _) rfl (.cons (Fact.eq _) rfl (.cons (Fact.eq _) rfl (.cons (Fact.eq _) rfl (.nil _))))))))))))))))))))))))) (fun w' h => ⟨HF11.out.next h, HA11.out.next h, HC11.out.next h, HE11.out.next h⟩) (fun w' h => trivial) (by kernel_rfl) ⟨rfl, rfl, rfl, rfl, rfl, trivial⟩ (.cons ?_ (.cons ?_ (.cons ?_ (.cons ?_ (.cons ?_ (.cons ?_ (.cons ?_ (.cons ?_ (.cons ?_ (.cons ?_ (.cons ?_ (.cons ?_ (.cons ?_ (.cons ?_ (.cons ?_ (.cons ?_ (.cons ?_ (.cons ?_ (.cons ?_ (.cons ?_ (.cons ?_ (.cons ?_ (.cons ?_ (.cons ?_ .nil)))))))))))))))))))))))) ?_
    · refine Obl.plain rfl _ rfl rfl [] (by kernel_rfl) fun a W hF hC hD K hK => ?_
      have e11 : a.tmps.getD 11 undef = .bool false := hF.1
      clear hF hD hC
      go_simp
      exact hK _ _ rfl (Below.refl _ _)
    · refine Obl.plain rfl _ rfl rfl [] (by kernel_rfl) fun a W hF hC hD K hK => ?_
      have e3 : a.tmps.getD 3 undef = .pointer (some ⟨bf, 0, none⟩) := hF.2.1
      clear hF hD hC
      go_simp
      exact hK _ _ rfl (Below.refl _ _)
    · refine Obl.plain rfl _ rfl rfl [] (by kernel_rfl) fun a W hF hC hD K hK => ?_
      obtain ⟨c1, c2, c3, c4⟩ := hC
      have e7 : a.tmps.getD 7 undef = .pointer (some ⟨b7, 0, none⟩) := hF.2.2.1
      clear hF hD
      exact wpE _ (.tmp 7) rfl c2 e7 Try.underlying24 rfl Try.sz24 (hK _ _ rfl (Below.refl _ _))
    · refine Obl.plain rfl _ rfl rfl [1, 2] (by kernel_rfl) fun a W hF hC hD K hK => ?_
      obtain ⟨c1, c2, c3, c4⟩ := hC
      have e152 : a.tmps.getD 152 undef = .pointer (some ⟨bf, 0, none⟩) := hD.1
      have e153 : a.tmps.getD 153 undef = vE (x) := hD.2.1
      clear hF hD
      exact wp_callV #[a.tmps.getD 152 undef, a.tmps.getD 153 undef] #[.pointer (some ⟨bf, 0, none⟩), vE (x)] (vE ((x) % P)) (by kernel_rfl) (by rw [e152, e153]) (freduce_c bf bm P n sz (x) W c1 Ha.out) fun w' hb => hK _ _ rfl hb
    · refine Obl.plain rfl _ rfl rfl [] (by kernel_rfl) fun a W hF hC hD K hK => ?_
      clear hF hD hC
      exact wp_value (vE (0)) (by kernel_rfl) (hK _ _ rfl (Below.refl _ _))
    · refine Obl.plain rfl _ rfl rfl [3, 4] (by kernel_rfl) fun a W hF hC hD K hK => ?_
      have e154 : a.tmps.getD 154 undef = vE ((x) % P) := hD.1
      have e155 : a.tmps.getD 155 undef = vE (0) := hD.2.1
      clear hF hD hC
      have f0 := eqv_of h0
      exact wp_neqN (.tmp 154) (.tmp 155) _ rfl e154 e155 (hK _ _ (congrArg (fun t => Value.bool (!t)) f0) (Below.refl _ _))
    · refine Obl.plain rfl _ rfl rfl [0, 5] (by kernel_rfl) fun a W hF hC hD K hK => ?_
      have e151 : a.tmps.getD 151 undef = .bool false := hD.1
      have e156 : a.tmps.getD 156 undef = .bool false := hD.2.1
      clear hF hD hC
      exact wp_eqlB (.tmp 151) (.tmp 156) _ _ rfl Try.underlying4 e151 e156 (hK _ _ rfl (Below.refl _ _))
    · refine Obl.plain rfl _ rfl rfl [6, 3] (by kernel_rfl) fun a W hF hC hD K hK => ?_
      have e157 : a.tmps.getD 157 undef = .bool true := hD.1
      clear hF hD hC
      go_simp
      exact hK _ _ rfl (Below.refl _ _)
    · refine Obl.guarded rfl _ rfl 7 true 158 rfl rfl [7] (by kernel_rfl) (fun a W hF hC hD => hD.1) fun a W hF hC hD K hK => ?_
      have e11 : a.tmps.getD 11 undef = .bool false := hF.1
      clear hF hD hC
      go_simp
      exact hK _ _ rfl (Below.refl _ _)
    · refine Obl.guarded rfl _ rfl 7 true 158 rfl rfl [8, 7] (by kernel_rfl) (fun a W hF hC hD => hD.2.1) fun a W hF hC hD K hK => ?_
      have e159 : a.tmps.getD 159 undef = .bool false := hD.1
      clear hF hD hC
      exact wp_not (.tmp 159) _ rfl e159 (hK _ _ rfl (Below.refl _ _))
    · refine Obl.guarded rfl _ rfl 7 true 158 rfl rfl [9, 7, 7] (by kernel_rfl) (fun a W hF hC hD => hD.2.1) fun a W hF hC hD K hK => ?_
      have e160 : a.tmps.getD 160 undef = .bool true := hD.1
      clear hF hD hC
      go_simp
      exact hK _ _ rfl (Below.refl _ _)
    · exact Obl.skipped rfl _ rfl 10 false 161 rfl rfl [10] (by kernel_rfl) (fun a W hF hC hD => hD.1) (fun _ => rfl)
    · exact Obl.skipped rfl _ rfl 10 false 161 rfl rfl [10] (by kernel_rfl) (fun a W hF hC hD => hD.1) (fun _ => rfl)
    · exact Obl.skipped rfl _ rfl 10 false 161 rfl rfl [10] (by kernel_rfl) (fun a W hF hC hD => hD.1) (fun _ => rfl)
    · exact Obl.skipped rfl _ rfl 10 false 161 rfl rfl [10] (by kernel_rfl) (fun a W hF hC hD => hD.1) (fun _ => rfl)
    · exact Obl.skipped rfl _ rfl 10 false 161 rfl rfl [12, 13, 14, 10, 10] (by kernel_rfl) (fun a W hF hC hD => hD.2.2.2.1) (fun _ => rfl)
    · exact Obl.skipped rfl _ rfl 10 false 161 rfl rfl [10] (by kernel_rfl) (fun a W hF hC hD => hD.1) (fun _ => rfl)
    · exact Obl.skipped rfl _ rfl 10 false 161 rfl rfl [11, 15, 16, 15, 10] (by kernel_rfl) (fun a W hF hC hD => hD.2.2.2.2.1) (fun _ => rfl)
    · exact Obl.skipped rfl _ rfl 10 false 161 rfl rfl [10] (by kernel_rfl) (fun a W hF hC hD => hD.1) (fun _ => rfl)
    · exact Obl.skipped rfl _ rfl 10 false 161 rfl rfl [10] (by kernel_rfl) (fun a W hF hC hD => hD.1) (fun _ => rfl)
    · exact Obl.skipped rfl _ rfl 10 false 161 rfl rfl [18, 19, 17, 10] (by kernel_rfl) (fun a W hF hC hD => hD.2.2.2.1) (fun _ => rfl)
    · exact Obl.skipped rfl _ rfl 10 false 161 rfl rfl [17, 20, 10] (by kernel_rfl) (fun a W hF hC hD => hD.2.2.1) (fun _ => rfl)
    · refine Obl.guarded rfl _ rfl 7 true 158 rfl rfl [10, 21, 7] (by kernel_rfl) (fun a W hF hC hD => hD.2.2.1) fun a W hF hC hD K hK => ?_
      have e161 : a.tmps.getD 161 undef = .bool true := hD.1
      have e172 : a.tmps.getD 172 undef = undef := hD.2.1
      clear hF hD hC
      exact wp_pick (.tmp 161) (.const (.bool true)) (.tmp 172) rfl (b := true) e161 rfl (hK _ _ rfl (Below.refl _ _))
    · refine Obl.plain rfl _ rfl rfl [7, 22] (by kernel_rfl) fun a W hF hC hD K hK => ?_
      have e158 : a.tmps.getD 158 undef = .bool true := hD.1
      have e173 : a.tmps.getD 173 undef = .bool true := hD.2.1
      clear hF hD hC
      exact wp_pick (.tmp 158) (.tmp 173) (.const (.bool false)) rfl (b := true) e158 e173 (hK _ _ rfl (Below.refl _ _))
    rintro w12 hB12 hC12 _ rfl _ rfl _ rfl _ rfl _ rfl _ rfl _ rfl _ rfl _ rfl _ rfl _ rfl _ rfl _ rfl _ rfl _ rfl _ rfl _ rfl _ rfl _ rfl _ rfl _ rfl _ rfl _ rfl _ rfl
    change Below _ _ _ at hB12
    change wpList _ _ _ _ _ _
    simp only [List.drop_succ_cons, List.drop_zero, Act.put, List.setIfInBounds_toArray, List.set_cons_zero, List.set_cons_succ]
    go_wp2_with fail
    go_ret
    exact ⟨rfl, below_next HB11.out hB12⟩
  · have hd : decide (x % P ≠ 0) = true := decide_eq_true h0
    rw [hd] at Hinv
    clear hd
    go_upto_region 10 with (first
      | ((with_reducible refine loadT 24 (v := x) (o := ⟨some 147, _, _, _, _, _⟩) ?_ (.tmp 7) ?_ ?_ HA9.out Try.underlying24 ?_ Try.sz24 ?_); rfl; rfl; rfl; rfl)
      | (go_at_call 27; refine Hinv.out.mono ?_; rintro e w10 ⟨rfl, hb10⟩; replace hb10 := hide hb10)
      | ((with_reducible refine allocT 24 (o := ⟨some 10, _, _, _, _, _⟩) ?_ ?_ Try.zr24 ?_); rfl; rfl; intro w10a b10 hv10 hn10)
      | ((with_reducible refine storeT 24 (v' := x ^ (P - 2) % P) (o := ⟨none, _, _, _, _, _⟩) ?_ (.tmp 10) (.tmp 149) ?_ ?_ ?_ hv10 Try.sz24 ?_); rfl; rfl; rfl; rfl; intro w11 hv11 ho11))
    have hlt : ∀ {bb t L}, VB w9 bb t L → bb ≠ b10 := fun h => Nat.ne_of_lt (Nat.lt_of_lt_of_le (h.next hb10.out).lt hn10.lo)
    have HB11 := hide (Only.below (below_next (below_next HB9.out hb10.out) hn10.bl) ho11.out (Nat.le_trans (Nat.le_trans HB9.out.size hb10.out.size) hn10.lo))
    have HF11 := hide (((HF9.out.next hb10.out).next hn10.bl).only ho11.out (hlt HF9.out.vb) (hlt HF9.out.fb.vb))
    have HA11 := hide (ho11.out.vb ((HA9.out.next hb10.out).next hn10.bl) (hlt HA9.out))
    have HC11 := hide (ho11.out.vb ((HC9.out.next hb10.out).next hn10.bl) (hlt HC9.out))
    have HE11 := hide hv11
    clear hv10 hn10 ho11 hb10 hv11 hlt HB9 HF9 HA9 HC9 HD9 Hinv
    refine region_do 24 175 [fun v _ => v = .bool true, fun v _ => v = .pointer (some ⟨bf, 0, none⟩), fun v _ => v = vE (x), fun v _ => v = vE ((x) % P), fun v _ => v = vE (0), fun v _ => v = .bool true, fun v _ => v = .bool true, fun v _ => v = .bool true, fun v _ => v = .bool true, fun v _ => v = .bool false, fun v _ => v = .bool false, fun v _ => v = .pointer (some ⟨bf, 0, none⟩), fun v _ => v = .pointer (some ⟨bf, 0, none⟩), fun v _ => v = vE (y), fun v _ => v = vE (x), fun v _ => v = vE ((y) * (x) % P), fun v _ => v = vE (x ^ (P - 2) % P), fun v _ => v = vE (((y) * (x) % P) * (x ^ (P - 2) % P) % P), fun v _ => v = .pointer (some ⟨bf, 0, none⟩), fun v _ => v = vE (y), fun v _ => v = vE ((y) % P), fun v _ => v = .bool true, fun v _ => v = .bool true, fun v _ => v = .bool true]
      [(11, .bool true), (3, .pointer (some ⟨bf, 0, none⟩)), (7, .pointer (some ⟨b7, 0, none⟩)), (8, .pointer (some ⟨b8, 0, none⟩)), (10, .pointer (some ⟨b10, 0, none⟩))] (fun w' => FQ w' bf bm P n sz ∧ VB w' b7 24 (ve x) ∧ VB w' b8 24 (ve y) ∧ VB w' b10 24 (ve (x ^ (P - 2) % P))) (fun w' => True) 999 none (by kernel_rfl) (by kernel_rfl) rfl rfl
      (.cons (Fact.eq _) rfl (.cons (Fact.eq _) rfl (.cons (Fact.eq _) rfl (.cons (Fact.eq _) rfl (.cons (Fact.eq _) rfl (.cons (Fact.eq _) rfl (.cons (Fact.eq _) rfl (.cons (Fact.eq _) rfl (.cons (Fact.eq _) rfl (.cons (Fact.eq _) rfl (.cons (Fact.eq _) rfl (.cons (Fact.eq _) rfl (.cons (Fact.eq _) rfl (.cons (Fact.eq _) rfl (.cons (Fact.eq _) rfl (.cons (Fact.eq _) rfl (.cons (Fact.eq _) rfl (.cons (Fact.eq _) rfl (.cons (Fact.eq _) rfl (.cons (Fact.eq _) rfl (.cons (Fact.eq _) rfl (.cons (Fact.eq _) rfl (.cons (Fact.eq _) rfl (.cons (Fact.eq _) rfl (.nil _))))))))))))))))))))))))) (fun w' h => ⟨HF11.out.next h, HA11.out.next h, HC11.out.next h, HE11.out.next h⟩) (fun w' h => trivial) (by kernel_rfl) ⟨rfl, rfl, rfl, rfl, rfl, trivial⟩ (.cons ?_ (.cons ?_ (.cons ?_ (.cons ?_ (.cons ?_ (.cons ?_ (.cons ?_ (.cons ?_ (.cons ?_ (.cons ?_ (.cons ?_ (.cons ?_ (.cons ?_ (.cons ?_ (.cons ?_ (.cons ?_ (.cons ?_ (.cons ?_ (.cons ?_ (.cons ?_ (.cons ?_ (.cons ?_ (.cons ?_ (.cons ?_ .nil)))))))))))))))))))))))) ?_
    · refine Obl.plain rfl _ rfl rfl [] (by kernel_rfl) fun a W hF hC hD K hK => ?_
      have e11 : a.tmps.getD 11 undef = .bool true := hF.1
      clear hF hD hC
      go_simp
      exact hK _ _ rfl (Below.refl _ _)
    · refine Obl.plain rfl _ rfl rfl [] (by kernel_rfl) fun a W hF hC hD K hK => ?_
      have e3 : a.tmps.getD 3 undef = .pointer (some ⟨bf, 0, none⟩) := hF.2.1
      clear hF hD hC
      go_simp
      exact hK _ _ rfl (Below.refl _ _)
    · refine Obl.plain rfl _ rfl rfl [] (by kernel_rfl) fun a W hF hC hD K hK => ?_
      obtain ⟨c1, c2, c3, c4⟩ := hC
      have e7 : a.tmps.getD 7 undef = .pointer (some ⟨b7, 0, none⟩) := hF.2.2.1
      clear hF hD
      exact wpE _ (.tmp 7) rfl c2 e7 Try.underlying24 rfl Try.sz24 (hK _ _ rfl (Below.refl _ _))
    · refine Obl.plain rfl _ rfl rfl [1, 2] (by kernel_rfl) fun a W hF hC hD K hK => ?_
      obtain ⟨c1, c2, c3, c4⟩ := hC
      have e152 : a.tmps.getD 152 undef = .pointer (some ⟨bf, 0, none⟩) := hD.1
      have e153 : a.tmps.getD 153 undef = vE (x) := hD.2.1
      clear hF hD
      exact wp_callV #[a.tmps.getD 152 undef, a.tmps.getD 153 undef] #[.pointer (some ⟨bf, 0, none⟩), vE (x)] (vE ((x) % P)) (by kernel_rfl) (by rw [e152, e153]) (freduce_c bf bm P n sz (x) W c1 Ha.out) fun w' hb => hK _ _ rfl hb
    · refine Obl.plain rfl _ rfl rfl [] (by kernel_rfl) fun a W hF hC hD K hK => ?_
      clear hF hD hC
      exact wp_value (vE (0)) (by kernel_rfl) (hK _ _ rfl (Below.refl _ _))
    · refine Obl.plain rfl _ rfl rfl [3, 4] (by kernel_rfl) fun a W hF hC hD K hK => ?_
      have e154 : a.tmps.getD 154 undef = vE ((x) % P) := hD.1
      have e155 : a.tmps.getD 155 undef = vE (0) := hD.2.1
      clear hF hD hC
      exact wp_neqN (.tmp 154) (.tmp 155) _ rfl e154 e155 (hK _ _ (congrArg (fun t => Value.bool (!t)) (eqv_ne (mlt.out _) h0)) (Below.refl _ _))
    · refine Obl.plain rfl _ rfl rfl [0, 5] (by kernel_rfl) fun a W hF hC hD K hK => ?_
      have e151 : a.tmps.getD 151 undef = .bool true := hD.1
      have e156 : a.tmps.getD 156 undef = .bool true := hD.2.1
      clear hF hD hC
      exact wp_eqlB (.tmp 151) (.tmp 156) _ _ rfl Try.underlying4 e151 e156 (hK _ _ rfl (Below.refl _ _))
    · refine Obl.plain rfl _ rfl rfl [6, 3] (by kernel_rfl) fun a W hF hC hD K hK => ?_
      have e157 : a.tmps.getD 157 undef = .bool true := hD.1
      clear hF hD hC
      go_simp
      exact hK _ _ rfl (Below.refl _ _)
    · refine Obl.guarded rfl _ rfl 7 true 158 rfl rfl [7] (by kernel_rfl) (fun a W hF hC hD => hD.1) fun a W hF hC hD K hK => ?_
      have e11 : a.tmps.getD 11 undef = .bool true := hF.1
      clear hF hD hC
      go_simp
      exact hK _ _ rfl (Below.refl _ _)
    · refine Obl.guarded rfl _ rfl 7 true 158 rfl rfl [8, 7] (by kernel_rfl) (fun a W hF hC hD => hD.2.1) fun a W hF hC hD K hK => ?_
      have e159 : a.tmps.getD 159 undef = .bool true := hD.1
      clear hF hD hC
      exact wp_not (.tmp 159) _ rfl e159 (hK _ _ rfl (Below.refl _ _))
    · refine Obl.guarded rfl _ rfl 7 true 158 rfl rfl [9, 7, 7] (by kernel_rfl) (fun a W hF hC hD => hD.2.1) fun a W hF hC hD K hK => ?_
      have e160 : a.tmps.getD 160 undef = .bool false := hD.1
      clear hF hD hC
      go_simp
      exact hK _ _ rfl (Below.refl _ _)
    · refine Obl.guarded rfl _ rfl 10 false 161 rfl rfl [10] (by kernel_rfl) (fun a W hF hC hD => hD.1) fun a W hF hC hD K hK => ?_
      have e3 : a.tmps.getD 3 undef = .pointer (some ⟨bf, 0, none⟩) := hF.2.1
      clear hF hD hC
      go_simp
      exact hK _ _ rfl (Below.refl _ _)
    · refine Obl.guarded rfl _ rfl 10 false 161 rfl rfl [10] (by kernel_rfl) (fun a W hF hC hD => hD.1) fun a W hF hC hD K hK => ?_
      have e3 : a.tmps.getD 3 undef = .pointer (some ⟨bf, 0, none⟩) := hF.2.1
      clear hF hD hC
      go_simp
      exact hK _ _ rfl (Below.refl _ _)
    · refine Obl.guarded rfl _ rfl 10 false 161 rfl rfl [10] (by kernel_rfl) (fun a W hF hC hD => hD.1) fun a W hF hC hD K hK => ?_
      obtain ⟨c1, c2, c3, c4⟩ := hC
      have e8 : a.tmps.getD 8 undef = .pointer (some ⟨b8, 0, none⟩) := hF.2.2.2.1
      clear hF hD
      exact wpE _ (.tmp 8) rfl c3 e8 Try.underlying24 rfl Try.sz24 (hK _ _ rfl (Below.refl _ _))
    · refine Obl.guarded rfl _ rfl 10 false 161 rfl rfl [10] (by kernel_rfl) (fun a W hF hC hD => hD.1) fun a W hF hC hD K hK => ?_
      obtain ⟨c1, c2, c3, c4⟩ := hC
      have e7 : a.tmps.getD 7 undef = .pointer (some ⟨b7, 0, none⟩) := hF.2.2.1
      clear hF hD
      exact wpE _ (.tmp 7) rfl c2 e7 Try.underlying24 rfl Try.sz24 (hK _ _ rfl (Below.refl _ _))
    · refine Obl.guarded rfl _ rfl 10 false 161 rfl rfl [12, 13, 14, 10, 10] (by kernel_rfl) (fun a W hF hC hD => hD.2.2.2.1) fun a W hF hC hD K hK => ?_
      obtain ⟨c1, c2, c3, c4⟩ := hC
      have e163 : a.tmps.getD 163 undef = .pointer (some ⟨bf, 0, none⟩) := hD.1
      have e164 : a.tmps.getD 164 undef = vE (y) := hD.2.1
      have e165 : a.tmps.getD 165 undef = vE (x) := hD.2.2.1
      clear hF hD
      exact wp_callV #[a.tmps.getD 163 undef, a.tmps.getD 164 undef, a.tmps.getD 165 undef] #[.pointer (some ⟨bf, 0, none⟩), vE (y), vE (x)] (vE ((y) * (x) % P)) (by kernel_rfl) (by rw [e163, e164, e165]) (fmul_c bf bm P n sz (y) (x) W c1 Hb.out Ha.out) fun w' hb => hK _ _ rfl hb
    · refine Obl.guarded rfl _ rfl 10 false 161 rfl rfl [10] (by kernel_rfl) (fun a W hF hC hD => hD.1) fun a W hF hC hD K hK => ?_
      obtain ⟨c1, c2, c3, c4⟩ := hC
      have e10 : a.tmps.getD 10 undef = .pointer (some ⟨b10, 0, none⟩) := hF.2.2.2.2.1
      clear hF hD
      exact wpE _ (.tmp 10) rfl c4 e10 Try.underlying24 rfl Try.sz24 (hK _ _ rfl (Below.refl _ _))
    · refine Obl.guarded rfl _ rfl 10 false 161 rfl rfl [11, 15, 16, 15, 10] (by kernel_rfl) (fun a W hF hC hD => hD.2.2.2.2.1) fun a W hF hC hD K hK => ?_
      obtain ⟨c1, c2, c3, c4⟩ := hC
      have e162 : a.tmps.getD 162 undef = .pointer (some ⟨bf, 0, none⟩) := hD.1
      have e166 : a.tmps.getD 166 undef = vE ((y) * (x) % P) := hD.2.1
      have e167 : a.tmps.getD 167 undef = vE (x ^ (P - 2) % P) := hD.2.2.1
      clear hF hD
      exact wp_callV #[a.tmps.getD 162 undef, a.tmps.getD 166 undef, a.tmps.getD 167 undef] #[.pointer (some ⟨bf, 0, none⟩), vE ((y) * (x) % P), vE (x ^ (P - 2) % P)] (vE (((y) * (x) % P) * (x ^ (P - 2) % P) % P)) (by kernel_rfl) (by rw [e162, e166, e167]) (fmul_c bf bm P n sz ((y) * (x) % P) (x ^ (P - 2) % P) W c1 (mlt.out _) (mlt.out _)) fun w' hb => hK _ _ rfl hb
    · refine Obl.guarded rfl _ rfl 10 false 161 rfl rfl [10] (by kernel_rfl) (fun a W hF hC hD => hD.1) fun a W hF hC hD K hK => ?_
      have e3 : a.tmps.getD 3 undef = .pointer (some ⟨bf, 0, none⟩) := hF.2.1
      clear hF hD hC
      go_simp
      exact hK _ _ rfl (Below.refl _ _)
    · refine Obl.guarded rfl _ rfl 10 false 161 rfl rfl [10] (by kernel_rfl) (fun a W hF hC hD => hD.1) fun a W hF hC hD K hK => ?_
      obtain ⟨c1, c2, c3, c4⟩ := hC
      have e8 : a.tmps.getD 8 undef = .pointer (some ⟨b8, 0, none⟩) := hF.2.2.2.1
      clear hF hD
      exact wpE _ (.tmp 8) rfl c3 e8 Try.underlying24 rfl Try.sz24 (hK _ _ rfl (Below.refl _ _))
    · refine Obl.guarded rfl _ rfl 10 false 161 rfl rfl [18, 19, 17, 10] (by kernel_rfl) (fun a W hF hC hD => hD.2.2.2.1) fun a W hF hC hD K hK => ?_
      obtain ⟨c1, c2, c3, c4⟩ := hC
      have e169 : a.tmps.getD 169 undef = .pointer (some ⟨bf, 0, none⟩) := hD.1
      have e170 : a.tmps.getD 170 undef = vE (y) := hD.2.1
      clear hF hD
      exact wp_callV #[a.tmps.getD 169 undef, a.tmps.getD 170 undef] #[.pointer (some ⟨bf, 0, none⟩), vE (y)] (vE ((y) % P)) (by kernel_rfl) (by rw [e169, e170]) (freduce_c bf bm P n sz (y) W c1 Hb.out) fun w' hb => hK _ _ rfl hb
    · refine Obl.guarded rfl _ rfl 10 false 161 rfl rfl [17, 20, 10] (by kernel_rfl) (fun a W hF hC hD => hD.2.2.1) fun a W hF hC hD K hK => ?_
      have e168 : a.tmps.getD 168 undef = vE (((y) * (x) % P) * (x ^ (P - 2) % P) % P) := hD.1
      have e171 : a.tmps.getD 171 undef = vE ((y) % P) := hD.2.1
      clear hF hD hC
      have f0 := eqv_of (pl_inv Hp.out x y h0)
      exact wp_eqlN (.tmp 168) (.tmp 171) _ rfl e168 e171 (hK _ _ (congrArg Value.bool f0) (Below.refl _ _))
    · refine Obl.guarded rfl _ rfl 7 true 158 rfl rfl [10, 21, 7] (by kernel_rfl) (fun a W hF hC hD => hD.2.2.1) fun a W hF hC hD K hK => ?_
      have e161 : a.tmps.getD 161 undef = .bool false := hD.1
      have e172 : a.tmps.getD 172 undef = .bool true := hD.2.1
      clear hF hD hC
      exact wp_pick (.tmp 161) (.const (.bool true)) (.tmp 172) rfl (b := false) e161 e172 (hK _ _ rfl (Below.refl _ _))
    · refine Obl.plain rfl _ rfl rfl [7, 22] (by kernel_rfl) fun a W hF hC hD K hK => ?_
      have e158 : a.tmps.getD 158 undef = .bool true := hD.1
      have e173 : a.tmps.getD 173 undef = .bool true := hD.2.1
      clear hF hD hC
      exact wp_pick (.tmp 158) (.tmp 173) (.const (.bool false)) rfl (b := true) e158 e173 (hK _ _ rfl (Below.refl _ _))
    rintro w12 hB12 hC12 _ rfl _ rfl _ rfl _ rfl _ rfl _ rfl _ rfl _ rfl _ rfl _ rfl _ rfl _ rfl _ rfl _ rfl _ rfl _ rfl _ rfl _ rfl _ rfl _ rfl _ rfl _ rfl _ rfl _ rfl
    change Below _ _ _ at hB12
    change wpList _ _ _ _ _ _
    simp only [List.drop_succ_cons, List.drop_zero, Act.put, List.setIfInBounds_toArray, List.set_cons_zero, List.set_cons_succ]
    go_wp2_with fail
    go_ret
    exact ⟨rfl, below_next HB11.out hB12⟩
end Go.Proofs.Ytincemkjdgbnnaa
