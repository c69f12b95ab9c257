/- Walks: limb.Bytes, nat.Fill, field.Encode, field.Decode. -/
import Derived.Test.YtincemkjdgbnnaaNatP
import Derived.Test.YtincemkjdgbnnaaLawE
set_option linter.unusedVariables false
set_option linter.unusedSimpArgs false
namespace Go.Proofs.Ytincemkjdgbnnaa
open Go.RowKit Lm

theorem byb_len (v : Nat) : (byb v).length = (blen v + 7) / 8 := by
  unfold byb
  rw [List.length_reverse]
  cases hm : (digs 256 v).length with
  | zero =>
    have h0 : v = 0 := (digs_eq_nil (by decide)).1 (List.length_eq_zero_iff.1 hm)
    subst h0; rfl
  | succ m =>
    have h1 := blen_digs (k := 8) (by decide) (v := v) (m := m) hm
    have h2 := digs_top_ne (B := 256) (by decide) hm
    have h3 : (digs 256 v).getD m 0 < 256 := Ok.getD (by decide) (digs_ok (by decide) v) m
    change blen v = 8 * m + blen ((digs 256 v).getD m 0) at h1
    generalize (digs 256 v).getD m 0 = t at *
    have h4 := blen_pos h2
    have h5 := blen_le_of_lt (n := t) (k := 8) h3
    omega
theorem byb_nth {v i n : Nat} (hn : (byb v).length = n) (h : i < n) : nth (byb v) i = v / 256 ^ (n - 1 - i) % 256 := by
  have hl : (digs 256 v).length = n := by rw [← hn]; unfold byb; rw [List.length_reverse]
  unfold byb
  rw [nth_reverse hl h, nth_val (by decide) _ (digs_ok (by decide) v), val_digs (by decide)]
theorem byte64 {l : List Nat} (hok : Ok B64 l) (i : Nat) : nth l (i / 8) / 2 ^ (i % 8 * 8) % 256 = val B64 l / 256 ^ i % 256 := by
  rw [nth_val B64_pos _ hok]
  generalize val B64 l = n
  have e : 256 ^ i = B64 ^ (i / 8) * 2 ^ (i % 8 * 8) := by
    rw [show (256 : Nat) = 2 ^ 8 from rfl, show B64 = 2 ^ 64 from rfl, ← Nat.pow_mul, ← Nat.pow_mul, ← Nat.pow_add]
    congr 1
    have := Nat.div_add_mod i 8
    omega
  rw [e, ← Nat.div_div_eq_div_mul]
  generalize n / B64 ^ (i / 8) = q
  have hr : i % 8 < 8 := Nat.mod_lt _ (by omega)
  generalize i % 8 = r at *
  have e2 : B64 = 2 ^ (r * 8) * (256 * 2 ^ (56 - r * 8)) := by
    rw [show (256 : Nat) = 2 ^ 8 from rfl, ← Nat.pow_add, ← Nat.pow_add, show B64 = 2 ^ 64 from rfl]; congr 1; omega
  rw [e2, Nat.mod_mul_right_div_self, Nat.mod_mod_of_dvd _ (Nat.dvd_mul_right 256 _)]
/-- the first i places of F, zeros behind. -/
def fz (F : List Nat) (i : Nat) : List Nat := F.take i ++ List.replicate (F.length - i) 0
theorem fz_length {F : List Nat} {i : Nat} (h : i ≤ F.length) : (fz F i).length = F.length := by simp [fz]; omega
theorem fz_set {F : List Nat} {i : Nat} (h : i < F.length) : (fz F i).set i (nth F i) = fz F (i + 1) := by
  unfold fz
  rw [List.take_succ_eq_append_getElem h, List.set_append_right _ _ (by rw [List.length_take]; omega), List.length_take, Nat.min_eq_left (by omega), Nat.sub_self,
    show F.length - i = (F.length - (i + 1)) + 1 by omega, List.replicate_succ, List.set_cons_zero, nth_of_lt h, List.append_assoc]
  rfl
theorem fz_zero (F : List Nat) : fz F 0 = List.replicate F.length 0 := by simp [fz]
theorem fz_full (F : List Nat) : fz F F.length = F := by simp [fz]

theorem mk_u8 (x : Int) (n : Nat) (hx : x = (n : Int)) (hn : n ≤ lim) (W : World) :
    (Instr.makeSlice 25 (.int .i64 x) (.int .i64 x)).run Try.prog W = .ok (.slice (some ⟨W.heap.size, 0, none⟩) n n) (W.alloc (nblk .u8 5 (List.replicate n 0))) :=
  mk_row Try.underlying25 Try.info_u8 (by omega) x n hx hn W

set_option maxRecDepth 100000 in
set_option maxHeartbeats 800000 in
theorem bytes_any (A : Option Addr) (c : Nat) (l : List Nat) (w : World) (hr : Rd w .u64 A l) (hc : l.length ≤ c) (hlim : l.length ≤ 1073741824) (hok : Ok B64 l) :
    Calls Try.prog 71 #[.slice A l.length c] w (RetSl w .u8 (byb (val B64 l))) := by
  have hbl : blen (val B64 l) ≤ 64 * l.length := blen_le_of_lt (by
    have := val_lt hok
    rwa [show B64 = 2 ^ 64 by decide, ← Nat.pow_mul] at this)
  have Hbits := hide (bits_any A c l w hr hc (by unfold lim; omega) hok)
  have Hbyte := hide (fun i => byte64 hok i)
  obtain ⟨v, hv⟩ : ∃ v, v = val B64 l := ⟨_, rfl⟩
  rw [← hv] at hbl Hbits Hbyte ⊢
  obtain ⟨N, hN⟩ : ∃ N, N = (blen v + 7) / 8 := ⟨_, rfl⟩
  have hFl := byb_len v
  rw [← hN] at hFl
  obtain ⟨F, hF⟩ : ∃ F, F = byb v := ⟨_, rfl⟩
  have Hnth : Hid (∀ i, i < N → nth F i = v / 256 ^ (N - 1 - i) % 256) := hide fun i hi => by rw [hF]; exact byb_nth hFl hi
  rw [← hF] at hFl ⊢
  generalize hm : l.length = m at *
  have HFl := hide hFl
  have HN := hide hN
  have Hm := hide hm
  have hN8 := hide (show N ≤ 8 * m by rw [hN]; omega)
  clear hv hF hm
  have iw1 := wrap_in ((blen v : Int) + 7) (by omega) (by omega)
  have iw2 : (((blen v : Int) + 7).tdiv 8) = (N : Int) := by rw [hN, Int.tdiv_eq_ediv_of_nonneg (by omega)]; omega
  have iw3 := wrap_in (N : Int) (by omega) (by omega)
  clear hN hFl
  go_enter Try.func71, Try.ntmps71
  go_upto_region 2 with (go_at_call 110; refine Hbits.out.mono ?_; rintro e w1 ⟨rfl, hb1⟩; replace hb1 := hide hb1)
  have hmk := mk_u8 (N : Int) N rfl (by have := hN8.out; unfold lim; omega) w1
  have Hr := hide (hr.below hb1.out)
  clear hr
  have hb2 : Below w.heap.size w (w1.alloc (nblk .u8 5 (List.replicate N 0))) := below_alloc hb1.out _
  have hblk2 := Blk.new w1 .u8 5 (List.replicate N 0)
  have hRB := hide ((Hr.out.toB).next (below_alloc (Below.refl _ w1) (nblk .u8 5 (List.replicate N 0))))
  obtain ⟨g, hg⟩ : ∃ g, g = w1.heap.size := ⟨_, rfl⟩
  have hgw : w.heap.size ≤ g := by rw [hg]; exact hb1.out.size
  rw [← hg] at hblk2 hmk hRB
  generalize w1.alloc (nblk .u8 5 (List.replicate N 0)) = w2 at *
  replace hb2 := hide hb2
  replace hg := hide hg
  replace hgw := hide hgw
  go_wp2_with fail
  clear hmk hb1 iw1 iw2
  rw [show List.replicate N 0 = fz F 0 by rw [fz_zero, HFl.out]] at hblk2
  replace hblk2 := hide hblk2
  go_loopw [5, 6, 15] (fun _ _ k wr => ∃ i : Nat, i ≤ N ∧ k = .int .i64 i ∧ Only w2 wr g ∧ Blk wr g 5 .u8 (fz F i)) (fun _ _ k _ => N - (intOf k).toNat)
  case atStart => exact ⟨0, Nat.zero_le _, rfl, Only.refl _ _, hblk2.out⟩
  case round =>
    obtain ⟨i, hi, rfl, hon, hblk⟩ := hrel
    by_cases hlt : i < N
    · obtain ⟨b, off, rfl, hbg, hrow⟩ := hRB.out (by rw [Hm.out]; have := hN8.out; omega)
      have hrow2 : RowN wr .u64 b off l := hon.row hrow (by omega)
      obtain ⟨a, ha⟩ : ∃ a, a = N - 1 - i := ⟨_, rfl⟩
      have ha' : (N : Int) - 1 - (i : Int) = (a : Int) := by omega
      have haN : a < N := by omega
      have ham : a / 8 < m := by have := hN8.out; omega
      have hcell := hrow2 (a / 8) (by rw [Hm.out]; exact ham)
      have hx : nth l (a / 8) < B64 := Ok.getD B64_pos hok _
      have hby := Hbyte.out a
      have hnth := Hnth.out i hlt
      rw [← ha] at hnth
      have hset := fz_set (F := F) (i := i) (by rw [HFl.out]; exact hlt)
      rw [hnth, ← hby] at hset
      have hcell2 := hblk.cell (i := i) (by rw [fz_length (by rw [HFl.out]; omega), HFl.out]; exact hlt)
      have hfr := hblk.frozen i
      have Hset := hide hset
      have Hblk := hide hblk
      have Hon := hide hon
      clear hrow hrow2 hblk hon hset hnth hby Hbyte Hnth
      generalize fz F i = L at *
      generalize nth l (a / 8) = x at *
      generalize nth L i = z at *
      have Ha := hide ha
      have hN8' := hN8.out
      clear ha
      have hm' := hide (show (N : Int) ≤ 8 * 1073741824 from by omega)
      have iw0 := wrap_in ((N : Int) - 1) (by omega) (by omega)
      have iw1 := wrap_in (a : Int) (by omega) (by omega)
      have i0 : (0 : Int) ≤ (a : Int) / 8 := by omega
      have i1 : (a : Int) / 8 < (m : Int) := by omega
      have i2 : ((a : Int) / 8).toNat = a / 8 := by omega
      have iw := wrap_in ((a : Int) / 8) (by omega) (by omega)
      have iw2 := wrap_in ((a : Int) % 8) (by omega) (by omega)
      have iw3 := wrap_in ((a : Int) % 8 * 8) (by omega) (by omega)
      have iw4 := wrap_in ((i : Int) + 1) (by omega) (by omega)
      go_wp2_with fail
      have hblk3 := Hblk.out.set_ i (E := (x : Int) / 2 ^ (a % 8 * 8) % 256) (z := x / 2 ^ (a % 8 * 8) % 256) (by simp)
      rw [Hset.out] at hblk3
      exact ⟨⟨i + 1, by omega, by simp, Hon.out.set_ _ _, hblk3⟩, by simp [intOf]; omega⟩
    · obtain rfl : i = N := by omega
      rw [show fz F i = F by rw [← HFl.out]; exact fz_full F] at hblk
      have hbw : Below w.heap.size w wr := Only.below hb2.out hon hgw.out
      go_wp2_with fail
      go_ret
      exact retsl_mk hbw HFl.out (Nat.le_refl _) (fun _ => ⟨_, _, rfl, hblk.row0⟩)

/-- a number's bytes, so many of them. -/
def fillb (v n : Nat) : List Nat := List.replicate (n - (byb v).length) 0 ++ byb v
theorem fillb_length {v n : Nat} (h : v < 256 ^ n) : (fillb v n).length = n := by
  have := byb_length_le h
  simp [fillb]; omega
theorem fillb_ok (v n : Nat) : Ok 256 (fillb v n) := (Ok.replicate (by decide) _).append (byb_ok v)
theorem be_fillb (v n : Nat) : be (fillb v n) = v := by
  unfold fillb be
  rw [List.reverse_append, List.reverse_replicate, val_append, val_replicate, Nat.mul_zero, Nat.add_zero]
  exact be_byb v
theorem fillb_be {l : List Nat} (h : Ok 256 l) : fillb (be l) l.length = l := by
  have hlt : be l < 256 ^ l.length := by
    have := val_lt (B := 256) (l := l.reverse) (fun y hy => h y (List.mem_reverse.1 hy))
    rwa [List.length_reverse] at this
  have h1 := val_inj (B := 256) (l := (fillb (be l) l.length).reverse) (m := l.reverse) (fun y hy => fillb_ok _ _ y (List.mem_reverse.1 hy)) (fun y hy => h y (List.mem_reverse.1 hy))
    (by rw [List.length_reverse, List.length_reverse, fillb_length hlt]) (be_fillb _ _)
  have := congrArg List.reverse h1
  rwa [List.reverse_reverse, List.reverse_reverse] at this

/-- zeros made, then bytes appended. -/
theorem app_made (A : Option Addr) (c k : Nat) (m : List Nat) (w : World) (hr : Rd w .u8 A m) (hlen : m.length ≤ 1073741824) (hk : k ≤ 1073741824) :
    ∃ A' c' w', (Builtin.append_ #[25, 25] 25 #[.slice (some ⟨w.heap.size, 0, none⟩) k k, .slice A m.length c]).run Try.prog (w.alloc (nblk .u8 5 (List.replicate k 0))) = .ok (.slice A' (List.replicate k 0 ++ m).length c') w' ∧
      (List.replicate k 0 ++ m).length ≤ c' ∧ Rd w' .u8 A' (List.replicate k 0 ++ m) ∧ Below w.heap.size w w' := by
  have hown : Own (w.alloc (nblk .u8 5 (List.replicate k 0))) w.heap.size .u8 5 (.slice (some ⟨w.heap.size, 0, none⟩) k k) (List.replicate k 0) := by
    exact ⟨by simp, .inr ⟨w.heap.size, k, _, by rw [List.length_replicate], Nat.le_refl _, heap_alloc_new w _, by simp, by simp only [maxLen]; omega, by simp, by simp⟩⟩
  have hb0 : Below w.heap.size w (w.alloc (nblk .u8 5 (List.replicate k 0))) := below_alloc (Below.refl _ _) _
  obtain ⟨v', w', hrun, hown', hg, _⟩ := app_n (P := Try.prog) (ty := 25) (c := c) Try.underlying25 Try.info_u8 (by omega) hown (hr.below hb0) (by simp; omega) hb0.size
  obtain ⟨A', c', rfl, hc, hrd⟩ := hown'.slice
  exact ⟨A', c', w', hrun, hc, hrd, hb0.grown hg hb0.size (fun k hk => by simp [Value.ownBlock] at hk; omega)⟩

set_option maxRecDepth 100000 in
set_option maxHeartbeats 800000 in
theorem nfill_any (A : Option Addr) (c v n : Nat) (w : World) (hr : Rd w .u32 A (digs B32 v)) (hc : (digs B32 v).length ≤ c) (hlim : (digs B32 v).length ≤ 268435456) (hn : n ≤ 1073741824) (hv : v < 256 ^ n) :
    Calls Try.prog 24 #[.slice A (digs B32 v).length c, .int .i64 (n : Int)] w (RetSl w .u8 (fillb v n)) := by
  have Hby := hide (nbytes_any A c v w hr hc hlim)
  have hl := hide (byb_length_le hv)
  obtain ⟨F, hF⟩ : ∃ F, F = byb v := ⟨_, rfl⟩
  have hfb : fillb v n = List.replicate (n - F.length) 0 ++ F := by rw [hF]; rfl
  rw [hfb]
  rw [← hF] at hl Hby
  replace hF := hide hF
  replace hfb := hide hfb
  clear hr
  have iw := wrap_in ((n : Int) - (F.length : Int)) (by have := hl.out; omega) (by omega)
  have e1 : (n : Int) - (F.length : Int) = ((n - F.length : Nat) : Int) := by have := hl.out; omega
  have hmk := mk_u8 ((n : Int) - (F.length : Int)) (n - F.length) e1 (by unfold lim; omega)
  replace e1 := hide e1
  go_enter Try.func24, Try.ntmps24
  go_upto_region 2 with (go_at_call 13; refine Hby.out.mono ?_; rintro e w1 ⟨A1, c1, rfl, hc1, hr1, hb1⟩)
  obtain ⟨A2, c2, w2, hrun, hc2, hr2, hb2⟩ := app_made A1 c1 (n - F.length) F w1 hr1 (by have := hl.out; omega) (by omega)
  have Hrun := hide hrun
  replace hmk := hmk w1
  clear hrun
  go_wp2_with (at_builtin; refine wpList_app rfl _ _ _ rfl rfl rfl Hrun.out ?_)
  go_ret
  exact retsl_mk (below_next hb1 hb2) (by simp) (by simpa using hc2) hr2

/-- the builtin copy: an operation. -/
theorem wp_copy {P : Program} {o : Oper} {a : Act} {w : World} {K : Act → World → Prop} {Q : Exit → Act → World → Prop} (d s : Operand) (dT sT : TypeId)
    (ho : o.op = .call { callee := .builtin .copy, args := #[d, s], argTypes := #[dT, sT] }) {vd vs v' : Value} {w' : World} (hd : a.eval d = vd) (hs : a.eval s = vs)
    (hrun : (Builtin.copy_ #[dT, sT] o.type #[vd, vs]).run P w = .ok v' w') (h : K (a.put o.dst v') w') : o.wp P a w K Q := by
  unfold Oper.wp execOp
  simp only [ho, resolve, invoke, builtin, Sem.run_bind, Sem.run_pure, Result.andThen_ok, List.map_toArray, List.map_cons, List.map_nil, hd, hs, hrun]
  exact h

set_option maxRecDepth 100000 in
set_option maxHeartbeats 1600000 in
theorem fenc_c (b bm P n size x : Nat) (w : World) (hF : FQ w b bm P n size) (hx : x < B64 ^ 6) (hs : size ≤ 48) (hPs : P ≤ 256 ^ size) :
    Calls Try.prog 23 #[.pointer (some ⟨b, 0, none⟩), vE x] w (RetSl w .u8 (fillb (x % P) size)) := by
  have hP0 := hF.pos
  have hlt : x % P < 256 ^ size := Nat.lt_of_lt_of_le (Nat.mod_lt _ hP0) hPs
  have hl := hide (byb_length_le hlt)
  have h6 := Nat.lt_trans (Nat.mod_lt x hP0) hF.lt6
  have Hby : Hid (∀ W g t, VB W g t (ve (x % P)) → Calls Try.prog 71 #[.slice (some ⟨g, 0, none⟩) 6 6] W (RetSl W .u8 (byb (x % P)))) := hide fun W g t h => by
    have := bytes_any (some ⟨g, 0, none⟩) 6 (fix B64 6 (x % P)) W (ve_rd h) (by rw [fix_length]; exact Nat.le_refl _) (by rw [fix_length]; decide) (fix_ok B64_pos _ _)
    rw [fix_length, val_fix_of_lt h6] at this
    exact this
  obtain ⟨F, hF'⟩ : ∃ F, F = byb (x % P) := ⟨_, rfl⟩
  have hfb : fillb (x % P) size = List.replicate (size - F.length) 0 ++ F := by rw [hF']; rfl
  rw [hfb]
  rw [← hF'] at hl Hby
  replace hF' := hide hF'
  replace hfb := hide hfb
  have hF := hide hF
  have hx := hide hx
  clear hlt h6
  have iw := wrap_in ((size : Int) - (F.length : Int)) (by have := hl.out; omega) (by omega)
  have e1 : (size : Int) - (F.length : Int) = ((size - F.length : Nat) : Int) := by have := hl.out; omega
  have hmk := hide (mk_u8 ((size : Int) - (F.length : Int)) (size - F.length) e1 (by unfold lim; omega))
  replace e1 := hide e1
  go_enter Try.func23, Try.ntmps23
  go_upto_region 3 with (first
    | ((with_reducible refine boxT 24 (o := ⟨some 3, _, _, _, _, _⟩) ?_ (.tmp 1) ?_ (v := x) ?_ ?_); rfl; rfl; rfl; intro w1 b1 hv1 hn1)
    | ((with_reducible refine loadT 24 (o := ⟨some 8, _, _, _, _, _⟩) ?_ (.tmp 3) ?_ ?_ hv1 Try.underlying24 rfl Try.sz24 ?_); rfl; rfl; rfl)
    | (go_at_call 18; refine (freduce_c b bm P n size x w1 (hF.out.next hn1.bl) hx.out).mono ?_; rintro e w3 ⟨rfl, hb3⟩; replace hb3 := hide hb3)
    | ((with_reducible refine allocT 24 (o := ⟨some 5, _, _, _, _, _⟩) ?_ ?_ Try.zr24 ?_); rfl; rfl; intro w4 b4 hv4 hn4)
    | ((with_reducible refine storeT 24 (v' := x % P) (o := ⟨none, _, _, _, _, _⟩) ?_ (.tmp 5) (.tmp 9) ?_ ?_ ?_ hv4 Try.sz24 ?_); rfl; rfl; rfl; rfl; intro w5 hv5 ho5; have r4 : w5.frozen? ⟨b4, 0, none⟩ = false := hv5.frozen 0)
    | (go_at_call 71; refine (Hby.out w5 b4 _ hv5).mono ?_; rintro e w6 ⟨A6, c6, rfl, hc6, hr6, hb6⟩; replace hb6 := hide hb6; replace hr6 := hide hr6))
  have hB4 := below_next (below_next hn1.bl hb3.out) hn4.bl
  have hb14 : b1 < b4 := Nat.lt_of_lt_of_le hn1.hi (Nat.le_trans hb3.out.size hn4.lo)
  have HB5 := Only.below hB4 ho5.out (Nat.le_trans hn1.lo (Nat.le_of_lt hb14))
  have HB6 := hide (below_next HB5 hb6.out)
  have hF4 := ((hF.out.next hn1.bl).next hb3.out).next hn4.bl
  have hF5 := hF4.only ho5.out (Nat.ne_of_lt (Nat.lt_of_lt_of_le ((hF.out.next hn1.bl).next hb3.out).vb.lt hn4.lo)) (Nat.ne_of_lt (Nat.lt_of_lt_of_le ((hF.out.next hn1.bl).next hb3.out).fb.vb.lt hn4.lo))
  have c0 := (hF5.next hb6.out).cellS
  clear HB5 hF4 hF5 hB4 hv5 ho5 hv4 hn4 hn1 hv1 hb3 hF r4
  obtain ⟨A2, c2, w2, hrun, hc2, hr2, hb2⟩ := app_made A6 c6 (size - F.length) F w6 hr6.out (by have := hl.out; omega) (by omega)
  have Hrun := hide hrun
  have hmk6 := hmk.out w6
  clear hrun hmk
  go_wp2_with (at_builtin; refine wpList_app rfl _ _ _ rfl rfl rfl Hrun.out ?_)
  go_ret
  exact retsl_mk (below_next HB6.out hb2) (by simp) (by simpa using hc2) hr2

/-- what reading an element hands back. -/
def decV (P size : Nat) (l : List Nat) : Nat := if l.length = size ∧ be l < P then be l else 0
def decE (P size : Nat) (l : List Nat) : Int := if l.length = size then (if be l < P then 0 else 3) else 6

set_option maxRecDepth 100000 in
set_option maxHeartbeats 1600000 in
theorem fdec_c (b bm P n size : Nat) (A : Option Addr) (c : Nat) (l : List Nat) (w : World) (hF : FQ w b bm P n size) (hr : Rd w .u8 A l) (hc : l.length ≤ c) (hlim : l.length ≤ 1073741824) (hok : Ok 256 l) (hs : size ≤ 48) :
    Calls Try.prog 20 #[.pointer (some ⟨b, 0, none⟩), .slice A l.length c] w fun e w' => e = .returned (.tuple #[vE (decV P size l), .int .i64 (decE P size l)]) ∧ Below w.heap.size w w' := by
  have hP0 := hF.pos
  have c0 := hF.cellS
  have hF := hide hF
  have hr := hide hr
  by_cases hl : l.length = size
  · have hlt : be l < 256 ^ 48 := be_ok_lt hok (by omega)
    have hl6 := hide (show be l < B64 ^ 6 from Nat.lt_of_lt_of_le hlt (by decide +kernel))
    have Hfrom := hide (fun W h => from_any A c l W h hc (by unfold lim; omega) hok)
    have hdV : decV P size l = if be l < P then be l else 0 := by unfold decV; simp [hl]
    have hdE : decE P size l = if be l < P then 0 else 3 := by unfold decE; simp [hl]
    rw [hdV, hdE]
    clear hdV hdE hlt hok
    generalize be l = N at *
    have hd : ((l.length : Int) == (size : Int)) = true := by rw [hl]; simp
    have Hl := hide hl
    clear hl
    go_enter Try.func20, Try.ntmps20
    go_upto_region 1 with ((with_reducible refine allocT 24 (o := ⟨some 4, _, _, _, _, _⟩) ?_ ?_ Try.zr24 ?_); rfl; rfl; intro w1 b1 hv1 hn1)
    have hF1 := hide (hF.out.next hn1.bl)
    have c1 := hF1.out.cellS
    go_upto_region 4 with ((with_reducible refine allocT 24 (o := ⟨some 6, _, _, _, _, _⟩) ?_ ?_ Try.zr24 ?_); rfl; rfl; intro w2 b2 hv2 hn2)
    have hF2 := hide (hF1.out.next hn2.bl)
    have hr2 := hide ((hr.out.below hn1.bl).below hn2.bl)
    have Hv2 := hide hv2
    have Hv1 := hide (hv1.next hn2.bl)
    have HB2 := hide (below_next hn1.bl hn2.bl)
    have Hb := hide (show w.heap.size ≤ b1 ∧ b1 < b2 ∧ b < b1 ∧ bm < b1 from ⟨hn1.lo, Nat.lt_of_lt_of_le hn1.hi hn2.lo, Nat.lt_of_lt_of_le hF.out.vb.lt hn1.lo, Nat.lt_of_lt_of_le hF.out.fb.vb.lt hn1.lo⟩)
    have hr2 := hide ((hr.out.toB.next (below_next hn1.bl hn2.bl)))
    clear hv1 hv2 hn1 hn2 c0 c1 hF hF1 hr
    refine region_do 3 26 [fun v _ => v = .slice (some ⟨b2, 0, none⟩) 6 6, fun v _ => v = .slice A l.length c, fun v w => RetV w .u64 (digs B64 N) v]
      [(6, .pointer (some ⟨b2, 0, none⟩)), (1, .slice A l.length c)] (fun w' => Rd w' .u8 A l) (fun w' => True) 999 none (by kernel_rfl) (by kernel_rfl) rfl rfl
      (.cons (Fact.eq _) rfl (.cons (Fact.eq _) rfl (.cons (fun v w w' h hb => h.next hb) rfl (.nil _)))) (fun w' h => hr2.out.rd.below h) (fun w' h => trivial) (by kernel_rfl) ⟨rfl, rfl, trivial⟩ (.cons ?_ (.cons ?_ (.cons ?_ .nil))) ?_
    · refine Obl.plain rfl _ rfl rfl [] (by kernel_rfl) fun a W hF hC hD K hK => ?_
      have e6 : a.tmps.getD 6 undef = .pointer (some ⟨b2, 0, none⟩) := hF.1
      clear hF hD hC
      go_simp
      exact hK _ _ rfl (Below.refl _ _)
    · refine Obl.plain rfl _ rfl rfl [] (by kernel_rfl) fun a W hF hC hD K hK => ?_
      have e1 : a.tmps.getD 1 undef = .slice A l.length c := hF.2.1
      clear hF hD hC
      go_simp
      exact hK _ _ rfl (Below.refl _ _)
    · refine Obl.plain rfl _ rfl rfl [1] (by kernel_rfl) fun a W hF hC hD K hK => ?_
      have c1 := hC
      have e16 : a.tmps.getD 16 undef = .slice A l.length c := hD.1
      clear hF hD
      go_simp
      refine (Hfrom.out W c1).mono ?_
      rintro e W' ⟨A2, c2', rfl, hc2, hr2, hb⟩
      exact hK _ _ ⟨A2, c2', rfl, hc2, hr2⟩ hb
    rintro w3 hB3 hC3 _ rfl _ rfl v17 g17
    change Below _ _ _ at hB3
    change wpList _ _ _ _ _ _
    simp only [List.drop_succ_cons, List.drop_zero, Act.put, List.setIfInBounds_toArray, List.set_cons_zero, List.set_cons_succ]
    obtain ⟨A2, c2', rfl, hc3, hr3⟩ := g17
    obtain ⟨w4, hrun, hv4, ho4⟩ := copyE (c := c2') (Hv2.out.next hB3) hr3 hl6.out
    have Hrun := hide hrun
    have Hv4 := hide hv4
    have HB4 := hide (Only.below (below_next HB2.out hB3) ho4 (by have := Hb.out; omega))
    have Hv14 := hide (ho4.vb (Hv1.out.next hB3) (by have := Hb.out; omega))
    have HF4 := hide ((hF2.out.next hB3).only ho4 (by have := Hb.out; omega) (by have := Hb.out; omega))
    clear hrun hv4 ho4 hB3 hC3 hr3 hr2 Hv2 Hv1 HB2 hF2 Hfrom
    go_upto_region 5 with ((with_reducible refine wpList_copy (o := ⟨some 18, _, _, _, _, _⟩) ?_ (.tmp 15) (.tmp 17) _ _ ?_ ?_ ?_ Hrun.out ?_); rfl; rfl; (go_simp); (go_simp))
    refine region_do 5 26 [fun v _ => v = .pointer (some ⟨b, 0, none⟩), fun v _ => v = vE (N), fun v _ => v = vE (N % P), fun v _ => v = vE (N), fun v _ => v = .bool (!eqv (N % P) N)]
      [(0, .pointer (some ⟨b, 0, none⟩)), (6, .pointer (some ⟨b2, 0, none⟩))] (fun w' => FQ w' b bm P n size ∧ VB w' b2 24 (ve N)) (fun w' => True) 999 none (by kernel_rfl) (by kernel_rfl) rfl rfl
      (.cons (Fact.eq _) rfl (.cons (Fact.eq _) rfl (.cons (Fact.eq _) rfl (.cons (Fact.eq _) rfl (.cons (Fact.eq _) rfl (.nil _)))))) (fun w' h => ⟨HF4.out.next h, Hv4.out.next h⟩) (fun w' h => trivial) (by kernel_rfl) ⟨rfl, rfl, trivial⟩ (.cons ?_ (.cons ?_ (.cons ?_ (.cons ?_ (.cons ?_ .nil))))) ?_
    · refine Obl.plain rfl _ rfl rfl [] (by kernel_rfl) fun a W hF hC hD K hK => ?_
      have e0 : a.tmps.getD 0 undef = .pointer (some ⟨b, 0, none⟩) := hF.1
      clear hF hD hC
      go_simp
      exact hK _ _ rfl (Below.refl _ _)
    · refine Obl.plain rfl _ rfl rfl [] (by kernel_rfl) fun a W hF hC hD K hK => ?_
      obtain ⟨c1, c2⟩ := hC
      have e6 : a.tmps.getD 6 undef = .pointer (some ⟨b2, 0, none⟩) := hF.2.1
      clear hF hD
      exact wpE _ (.tmp 6) rfl c2 e6 Try.underlying24 rfl Try.sz24 (hK _ _ rfl (Below.refl _ _))
    · refine Obl.plain rfl _ rfl rfl [0, 1] (by kernel_rfl) fun a W hF hC hD K hK => ?_
      obtain ⟨c1, c2⟩ := hC
      have e19 : a.tmps.getD 19 undef = .pointer (some ⟨b, 0, none⟩) := hD.1
      have e20 : a.tmps.getD 20 undef = vE (N) := hD.2.1
      clear hF hD
      go_simp
      refine (freduce_c b bm P n size N W c1 hl6.out).mono ?_
      rintro e W' ⟨rfl, hb⟩
      exact hK _ _ rfl hb
    · refine Obl.plain rfl _ rfl rfl [] (by kernel_rfl) fun a W hF hC hD K hK => ?_
      obtain ⟨c1, c2⟩ := hC
      have e6 : a.tmps.getD 6 undef = .pointer (some ⟨b2, 0, none⟩) := hF.2.1
      clear hF hD
      exact wpE _ (.tmp 6) rfl c2 e6 Try.underlying24 rfl Try.sz24 (hK _ _ rfl (Below.refl _ _))
    · refine Obl.plain rfl _ rfl rfl [2, 3] (by kernel_rfl) fun a W hF hC hD K hK => ?_
      have e21 : a.tmps.getD 21 undef = vE (N % P) := hD.1
      have e22 : a.tmps.getD 22 undef = vE (N) := hD.2.1
      clear hF hD hC
      go_simp
      exact hK _ _ rfl (Below.refl _ _)
    rintro w5 hB5 hC5 _ rfl _ rfl _ rfl _ rfl _ rfl
    change Below _ _ _ at hB5
    change wpList _ _ _ _ _ _
    simp only [List.drop_succ_cons, List.drop_zero, Act.put, List.setIfInBounds_toArray, List.set_cons_zero, List.set_cons_succ]
    have HB5 := hide (below_next HB4.out hB5)
    have Hv25 := hide (Hv4.out.next hB5)
    have Hv15 := hide (Hv14.out.next hB5)
    clear hB5 hC5 HB4 HF4 Hrun
    by_cases hlt : N < P
    · have hq : (!eqv (N % P) N) = false := by rw [Nat.mod_eq_of_lt hlt, eqv_of rfl]; rfl
      rw [hq]
      clear hq
      go_wp2_with (first
        | ((with_reducible refine loadT 24 (o := ⟨some 25, _, _, _, _, _⟩) ?_ (.tmp 6) ?_ ?_ Hv25.out Try.underlying24 rfl Try.sz24 ?_); rfl; rfl; rfl)
        | ((with_reducible refine storeT 24 (v' := N) (o := ⟨none, _, _, _, _, _⟩) ?_ (.tmp 4) (.tmp 25) ?_ ?_ ?_ Hv15.out Try.sz24 ?_); rfl; rfl; rfl; rfl; intro w6 hv6 ho6))
      exact retTT 24 rfl rfl rfl hv6 Try.underlying24 rfl Try.sz24 rfl ⟨rfl, Only.below HB5.out ho6.out (by have := Hb.out; omega)⟩
    · have hq : (!eqv (N % P) N) = true := by
        rw [eqv_lt (Nat.lt_of_le_of_lt (Nat.mod_le _ _) hl6.out) hl6.out, decide_eq_false]; rfl
        have := Nat.mod_lt N hP0; omega
      rw [hq]
      clear hq
      go_wp2_with ((with_reducible refine storeT 24 (v' := 0) (o := ⟨none, _, _, _, _, _⟩) ?_ (.tmp 4) (.tmp 24) ?_ ?_ ?_ Hv15.out Try.sz24 ?_); rfl; rfl; rfl; rfl; intro w6 hv6 ho6)
      exact retTT 24 rfl rfl rfl hv6 Try.underlying24 rfl Try.sz24 rfl ⟨rfl, Only.below HB5.out ho6.out (by have := Hb.out; omega)⟩
  · have hdV : decV P size l = 0 := by unfold decV; simp [hl]
    have hdE : decE P size l = 6 := by unfold decE; simp [hl]
    rw [hdV, hdE]
    clear hdV hdE hok
    have hd : ((l.length : Int) == (size : Int)) = false := by rw [beq_eq_false_iff_ne]; omega
    have Hl := hide hl
    clear hl
    go_enter Try.func20, Try.ntmps20
    go_upto_region 1 with ((with_reducible refine allocT 24 (o := ⟨some 4, _, _, _, _, _⟩) ?_ ?_ Try.zr24 ?_); rfl; rfl; intro w1 b1 hv1 hn1)
    have hF1 := hide (hF.out.next hn1.bl)
    have c1 := hF1.out.cellS
    go_wp2_with ((with_reducible refine storeT 24 (v' := 0) (o := ⟨none, _, _, _, _, _⟩) ?_ (.tmp 4) (.tmp 14) ?_ ?_ ?_ hv1 Try.sz24 ?_); rfl; rfl; rfl; rfl; intro w5 hv5 ho5)
    exact retTT 24 rfl rfl rfl hv5 Try.underlying24 rfl Try.sz24 rfl ⟨rfl, Only.below hn1.bl ho5.out hn1.lo⟩
end Go.Proofs.Ytincemkjdgbnnaa
