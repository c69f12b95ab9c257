/- Walks: the reference's numbers (nat): From; the copies of quarrykeep. Walks: the reference's numbers (nat): Bytes. Walks: the reference's numbers (nat): Cmp, Bit, Len. Walks: the reference's numbers (nat): Sub. Walks: the reference's numbers (nat): Shr by less than a digit. Walks: the reference's numbers (nat): Mul. -/
import Derived.Test.YtincemkjdgbnnaaNatR
import Derived.Test.YtincemkjdgbnnaaDivP
set_option linter.unusedVariables false
set_option linter.unusedSimpArgs false
namespace Go.Proofs.Ytincemkjdgbnnaa
open Go.RowKit Lm

/-- one byte is laid into its digit. -/
theorem lay32_step {N i V d : Nat} (hi : i < 4 * N) (hV : V < 256 ^ i) (hd : d < 256) :
    (fix B32 N V).set (i / 4) (nth (fix B32 N V) (i / 4) ||| d * 2 ^ (8 * (i % 4))) = fix B32 N (V + 256 ^ i * d) ∧ d * 2 ^ (8 * (i % 4)) < B32 := by
  have hj : i / 4 < N := by omega
  have hr : i % 4 < 4 := Nat.mod_lt _ (by omega)
  have ha := Nat.div_add_mod i 4
  generalize i / 4 = j at *
  generalize i % 4 = r at *
  have e16 : ∀ k, 256 ^ k = 2 ^ (8 * k) := fun k => by rw [Nat.pow_mul]
  have eB : ∀ k, B32 ^ k = 2 ^ (32 * k) := fun k => by rw [Nat.pow_mul]; rfl
  have hold : nth (fix B32 N V) j = V / B32 ^ j % B32 := nth_fix32 hj
  have hlt : d * 2 ^ (8 * r) < 2 ^ (8 * r + 8) := by
    rw [Nat.pow_add, Nat.mul_comm]; exact Nat.mul_lt_mul_of_pos_left (by omega) (Nat.pow_pos (by omega))
  have hle : 2 ^ (8 * r + 8) ≤ B32 := Nat.pow_le_pow_right (by omega) (show 8 * r + 8 ≤ 32 by omega)
  have hVj : V / B32 ^ j < 2 ^ (8 * r) := by
    rw [Nat.div_lt_iff_lt_mul (p32_pos j), eB, ← Nat.pow_add, show 8 * r + 32 * j = 8 * i by omega, ← e16]
    exact hV
  have hVB : V / B32 ^ j % B32 = V / B32 ^ j := Nat.mod_eq_of_lt (Nat.lt_of_lt_of_le hVj (Nat.pow_le_pow_right (by omega) (show 8 * r ≤ 32 by omega)))
  refine ⟨?_, by omega⟩
  rw [hold, hVB, Nat.or_comm, or_add (Nat.mul_mod_left _ _) hVj]
  have hnew : d * 2 ^ (8 * r) + V / B32 ^ j < B32 := by
    have : d * 2 ^ (8 * r) + 2 ^ (8 * r) ≤ 2 ^ (8 * r + 8) := by
      rw [← Nat.succ_mul, Nat.pow_add, Nat.mul_comm]; exact Nat.mul_le_mul_left _ (by omega)
    omega
  have hadd : 256 ^ i * d = B32 ^ j * (d * 2 ^ (8 * r)) := by
    rw [e16, eB, show 8 * i = 32 * j + 8 * r by omega, Nat.pow_add, Nat.mul_assoc, Nat.mul_comm d]
  have hVN : V + 256 ^ i * d < B32 ^ N := by
    have h1 : 256 ^ (i + 1) ≤ B32 ^ N := by rw [e16, eB]; exact Nat.pow_le_pow_right (by omega) (by omega)
    have h2 : 256 ^ i * d + 256 ^ i ≤ 256 ^ (i + 1) := by rw [← Nat.mul_succ, Nat.pow_succ]; exact Nat.mul_le_mul_left _ (by omega)
    omega
  refine val_inj (Ok.set (fix_ok B32_pos _ _) hnew) (fix_ok B32_pos _ _) (by rw [List.length_set, fix_length, fix_length]) ?_
  have hs := val_set (B := B32) (fix B32 N V) j (d * 2 ^ (8 * r) + V / B32 ^ j) (by rw [fix_length]; exact hj)
  rw [← nth_of_lt (by rw [fix_length]; exact hj), hold, hVB] at hs
  rw [val_fix_of_lt (show V < B32 ^ N by omega), Nat.mul_add] at hs
  rw [val_fix_of_lt hVN, hadd]
  omega

theorem or_shl32 {x y k : Nat} (hy : y < B32) (h : x * 2 ^ k < B32) : bits .or .u32 (y : Int) (IntKind.u32.wrap ((x : Int) * 2 ^ k)) = ((y ||| x * 2 ^ k : Nat) : Int) := by
  have e : ((x : Int) * 2 ^ k) = ((x * 2 ^ k : Nat) : Int) := by simp
  have h2 := h
  rw [B32_eq] at h2
  rw [e, IntKind.wrap_u32, Int.emod_eq_of_lt (by omega) (by omega), or_u32 hy h]

theorem nth_reverse {l : List Nat} {i m : Nat} (hm : l.length = m) (h : i < m) : nth l.reverse i = nth l (m - 1 - i) := by
  rw [nth_of_lt (by rw [List.length_reverse, hm]; exact h), nth_of_lt (by omega), List.getElem_reverse]
  simp [hm]

set_option maxRecDepth 100000 in
set_option maxHeartbeats 1600000 in
theorem nfrom_any (A : Option Addr) (c : Nat) (l : List Nat) (w : World) (hr : Rd w .u8 A l) (hc : l.length ≤ c) (hlim : l.length ≤ lim) (hok : Ok 256 l) :
    Calls Try.prog 16 #[.slice A l.length c] w (RetSl w .u32 (digs B32 (be l))) := by
  have hlim2 := hlim
  unfold lim at hlim2
  obtain ⟨N, hN⟩ : ∃ N, N = (l.length + 3) / 4 := ⟨_, rfl⟩
  have okR : Ok 256 l.reverse := fun y hy => hok y (List.mem_reverse.1 hy)
  generalize hm : l.length = m at *
  have Hm := hide hm; clear hm
  have HN := hide hN
  have hmk := mk_u32 (((m : Int) + 3) / 4) N (by rw [hN]; omega) (by unfold lim; omega)
  have iw0 := wrap_in ((m : Int) + 3) (by omega) (by omega)
  have iw1 := wrap_in (((m : Int) + 3) / 4) (by omega) (by omega)
  clear hN
  go_enter Try.func16, Try.ntmps16
  go_wp2_with fail
  clear hmk iw0 iw1
  go_loopw [4, 5] (fun k _ wr => ∃ i : Nat, i ≤ m ∧ k = .int .i64 i ∧ Only (w.alloc (nblk .u32 95 (List.replicate N 0))) wr w.heap.size ∧
    Blk wr w.heap.size 95 .u32 (fix B32 N (val 256 (l.reverse.take i)))) (fun k _ _ => m - (intOf k).toNat)
  case atStart =>
    refine ⟨0, Nat.zero_le _, rfl, Only.refl _ _, ?_⟩
    have : fix B32 N (val 256 (l.reverse.take 0)) = List.replicate N 0 := by
      refine val_inj (fix_ok B32_pos _ _) (Ok.replicate B32_pos _) (by rw [fix_length, List.length_replicate]) ?_
      rw [val_replicate, val_fix]; simp [val]
    rw [this]
    exact Blk.new _ _ _ _
  case round =>
    obtain ⟨i, hi, rfl, hon, hblk⟩ := hrel
    by_cases hlt : i < m
    · obtain ⟨b, off, rfl, hrow⟩ := hr (by rw [Hm.out]; omega)
      have hbw := hrow.lt (by rw [Hm.out]; omega)
      have hrow2 : RowN wr .u8 b off l := hon.row (hrow.below ((Below.refl _ _).alloc (Nat.le_refl _) _)) (by omega)
      obtain ⟨a, ha⟩ : ∃ a, a = m - 1 - i := ⟨_, rfl⟩
      have hcell := hrow2 a (by rw [Hm.out]; omega)
      have hx : nth l a < 256 := Ok.getD (by decide) hok _
      have ha' : (m : Int) - 1 - (i : Int) = (a : Int) := by omega
      have ham : a < m := by omega
      have hjN : i / 4 < N := by rw [HN.out]; omega
      have hst := lay32_step (N := N) (V := val 256 (l.reverse.take i)) (d := nth l a) (i := i) (by rw [HN.out]; omega) (vt_lt okR (by decide) i) hx
      have hV2 : val 256 (l.reverse.take i) + 256 ^ i * nth l a = val 256 (l.reverse.take (i + 1)) := by
        rw [vt_succ', nth_reverse Hm.out hlt, ha]
      rw [hV2] at hst
      have hcell2 := hblk.cell (i := i / 4) (by rw [fix_length]; exact hjN)
      have hfr := hblk.frozen (i / 4)
      have hy : nth (fix B32 N (val 256 (l.reverse.take i))) (i / 4) < B32 := Ok.getD B32_pos (fix_ok B32_pos _ _) _
      have Hst := hide hst
      have Hblk := hide hblk
      have Hon := hide hon
      clear hrow hrow2 hr hst hblk hon hV2 hbw
      generalize fix B32 N (val 256 (l.reverse.take i)) = L at *
      generalize nth l a = x at *
      generalize nth L (i / 4) = y at *
      have Ha := hide ha
      clear ha
      have iwa := wrap_in ((m : Int) - 1) (by omega) (by omega)
      have iwb := wrap_in (a : Int) (by omega) (by omega)
      have i0 : (0 : Int) ≤ (i : Int) / 4 := by omega
      have i1 : (i : Int) / 4 < (N : Int) := by omega
      have i2 : ((i : Int) / 4).toNat = i / 4 := by omega
      have iw := wrap_in ((i : Int) / 4) (by omega) (by omega)
      have iw2 := wrap_in ((i : Int) % 4) (by omega) (by omega)
      have iw3 := wrap_in (8 * ((i : Int) % 4)) (by omega) (by omega)
      have ex : (x : Int) % 4294967296 = (x : Int) := by omega
      have iw4 := wrap_in ((i : Int) + 1) (by omega) (by omega)
      go_wp2_with fail
      clear ha'
      go_region
      go_wp2_with fail
      have hE := or_shl32 hy Hst.out.2
      have hblk2 := Blk.drew (Hblk.out.set_ (i / 4) hE)
      rw [Hst.out.1] at hblk2
      exact ⟨⟨i + 1, by omega, by simp, (Hon.out.set_ _ _).drew, hblk2⟩, by simp [intOf]; omega⟩
    · obtain rfl : i = m := by omega
      have hfull : l.reverse.take i = l.reverse := List.take_of_length_le (by rw [List.length_reverse, Hm.out]; exact Nat.le_refl _)
      rw [hfull] at hblk
      have hbw : Below w.heap.size w wr := Only.below ((Below.refl _ _).alloc (Nat.le_refl _) _) hon (Nat.le_refl _)
      have hv : be l < B32 ^ N := by
        have h1 := val_lt okR
        rw [List.length_reverse, Hm.out] at h1
        have h2 : 256 ^ i ≤ B32 ^ N := by
          rw [show B32 = 2 ^ 32 from rfl, show (256 : Nat) = 2 ^ 8 from rfl, ← Nat.pow_mul, ← Nat.pow_mul]
          exact Nat.pow_le_pow_right (by omega) (by rw [HN.out]; omega)
        exact Nat.lt_of_lt_of_le h1 h2
      have htr := ntrim_any (some ⟨w.heap.size, 0, none⟩) N (fix B32 N (be l)) wr (fun _ => ⟨_, _, rfl, hblk.row0⟩) (by rw [fix_length]; exact Nat.le_refl _) (by rw [fix_length, HN.out]; unfold lim; omega) (fix_ok B32_pos _ _)
      rw [fix_length, val_fix_of_lt hv] at htr
      have Htr := hide htr
      clear htr hblk hon
      go_wp2_with fail
      refine Htr.out.mono ?_
      rintro e w2 ⟨A2, c2, rfl, hc2, hr2, hb2⟩
      go_wp2_with fail
      go_ret
      exact retsl_mk (below_next hbw hb2) rfl hc2 hr2

/-- append onto a list of bytes that was made just now. -/
theorem app_new (A : Option Addr) (c : Nat) (m : List Nat) (w : World) (hr : Rd w .u8 A m) (hlen : m.length ≤ lim) :
    ∃ A' c' w', (Builtin.append_ #[25, 25] 25 #[.slice (some ⟨w.heap.size, 0, none⟩) 0 0, .slice A m.length c]).run Try.prog (w.alloc (.cells #[] 5)) = .ok (.slice A' m.length c') w' ∧ m.length ≤ c' ∧ Rd w' .u8 A' m ∧ Below w.heap.size w w' := by
  unfold lim at hlen
  have hown : Own (w.alloc (.cells #[] 5)) w.heap.size .u8 5 (.slice (some ⟨w.heap.size, 0, none⟩) 0 0) [] := World.ownsRow_made w #[] 0 (Nat.le_refl _) (by simp) (by simp)
  have hb0 : Below w.heap.size w (w.alloc (.cells #[] 5)) := below_alloc (Below.refl _ _) _
  obtain ⟨v', w', hrun, hown', hg, _⟩ := app_n (P := Try.prog) (ty := 25) (c := c) Try.underlying25 Try.info_u8 (by omega) hown (hr.below hb0) (by simp; omega) hb0.size
  rw [List.nil_append] at hown'
  obtain ⟨A', c', rfl, hc, hrd⟩ := hown'.slice
  exact ⟨A', c', w', hrun, hc, hrd, hb0.grown hg hb0.size (fun k hk => by simp [Value.ownBlock] at hk; omega)⟩

set_option maxRecDepth 100000 in
set_option maxHeartbeats 1600000 in
theorem twin_any (A : Option Addr) (c most : Nat) (l : List Nat) (w : World) (hr : Rd w .u8 A l) (hc : l.length ≤ c) (hlim : most ≤ lim) :
    Calls Try.prog 14 #[.slice A l.length c, .int .i64 (most : Int)] w (RetSl w .u8 (l.take most)) := by
  by_cases h : most < l.length
  · obtain ⟨A', c', w', hrun, hc', hrd, hb⟩ := app_new A c (l.take most) w (hr.take most) (by rw [List.length_take]; omega)
    have hl : (l.take most).length = most := by rw [List.length_take]; omega
    rw [hl] at hrun hc'
    have hd : decide ((most : Int) < (l.length : Int)) = true := decide_eq_true (by omega)
    have h0 : (0 : Int) ≤ (most : Int) := by omega
    have h1 : (most : Int) ≤ (c : Int) := by omega
    have Hl := hide hl
    have Hr := hide hrd
    have Hb := hide hb
    have Hc := hide hc'
    have Hrun := hide hrun
    clear hl hrd hb hc' hrun hr
    go_enter Try.func14, Try.ntmps14
    go_wp2_with (at_builtin; refine wpList_app rfl _ _ _ rfl rfl rfl Hrun.out ?_)
    go_ret
    exact retsl_mk Hb.out Hl.out Hc.out Hr.out
  · obtain ⟨A', c', w', hrun, hc', hrd, hb⟩ := app_new A c l w hr (by omega)
    have hl : l.take most = l := List.take_of_length_le (by omega)
    rw [hl]
    have hd : decide ((most : Int) < (l.length : Int)) = false := decide_eq_false (by omega)
    have Hr := hide hrd
    have Hb := hide hb
    have Hc := hide hc'
    have Hrun := hide hrun
    clear hl hrd hb hc' hrun hr
    go_enter Try.func14, Try.ntmps14
    go_wp2_with (at_builtin; refine wpList_app rfl _ _ _ rfl rfl rfl Hrun.out ?_)
    go_ret
    exact retsl_mk Hb.out rfl Hc.out Hr.out
end Go.Proofs.Ytincemkjdgbnnaa

set_option linter.unusedVariables false
set_option linter.unusedSimpArgs false
namespace Go.Proofs.Ytincemkjdgbnnaa
open Go.RowKit Lm

/-- the bytes of a number, the highest first, without zeros ahead. -/
def byb (n : Nat) : List Nat := (digs 256 n).reverse
theorem byb_zero : byb 0 = [] := by unfold byb; rw [digs_zero]; rfl
theorem byb_step {q d : Nat} (hd : d < 256) (h : byb q ≠ [] ∨ d ≠ 0) : byb (d + 256 * q) = byb q ++ [d] := by
  unfold byb at *
  have hn : d + 256 * q ≠ 0 := by
    rcases h with h | h
    · rintro e
      have : q = 0 := by omega
      subst this
      rw [digs_zero] at h
      exact h rfl
    · omega
  rw [digs_pos hn (by decide), Nat.add_mul_mod_self_left, Nat.mod_eq_of_lt hd, Nat.add_mul_div_left _ _ (by decide), Nat.div_eq_of_lt hd, Nat.zero_add, List.reverse_cons]
theorem byb_zero_step {q d : Nat} (h : byb q = []) (hd : d = 0) : byb (d + 256 * q) = byb q := by
  have hq : q = 0 := by
    unfold byb at h
    exact (digs_eq_nil (by decide)).1 (List.reverse_eq_nil_iff.1 h)
  rw [hq, hd]
theorem be_byb (n : Nat) : be (byb n) = n := by unfold be byb; rw [List.reverse_reverse, val_digs (by decide)]
theorem byb_ok (n : Nat) : Ok 256 (byb n) := fun x hx => digs_ok (B := 256) (by decide) n x (List.mem_reverse.1 hx)
theorem byb_length_le {n k : Nat} (h : n < 256 ^ k) : (byb n).length ≤ k := by unfold byb; rw [List.length_reverse]; exact digs_length_le (by decide) h
theorem nth_val {B : Nat} (hB : 0 < B) : ∀ {L : List Nat} (i : Nat), Ok B L → nth L i = val B L / B ^ i % B
  | [], i, _ => by simp [nth, val]
  | x :: L, 0, h => by
    have hx : x < B := h x List.mem_cons_self
    simp only [val, Nat.pow_zero, Nat.div_one, Nat.add_mul_mod_self_left, Nat.mod_eq_of_lt hx]
    rfl
  | x :: L, i + 1, h => by
    have hx : x < B := h x List.mem_cons_self
    have := nth_val hB i (fun y hy => h y (List.mem_cons_of_mem _ hy) : Ok B L)
    rw [show nth (x :: L) (i + 1) = nth L i from rfl, this]
    simp only [val]
    rw [Nat.pow_succ', ← Nat.div_div_eq_div_mul, Nat.add_mul_div_left _ _ hB, Nat.div_eq_of_lt hx, Nat.zero_add]
/-- a byte of a number, out of its digit. -/
theorem byte_at (n i : Nat) : nth (digs B32 n) (i / 4) / 2 ^ (8 * (i % 4)) % 256 = n / 256 ^ i % 256 := by
  have h1 : nth (digs B32 n) (i / 4) = n / B32 ^ (i / 4) % B32 := by rw [nth_val B32_pos _ (digs_ok B32_ge n), val_digs B32_ge]
  rw [h1]
  have e : 256 ^ i = B32 ^ (i / 4) * 2 ^ (8 * (i % 4)) := by
    rw [show (256 : Nat) = 2 ^ 8 from rfl, show B32 = 2 ^ 32 from rfl, ← Nat.pow_mul, ← Nat.pow_mul, ← Nat.pow_add]
    congr 1
    have := Nat.div_add_mod i 4
    omega
  rw [e, ← Nat.div_div_eq_div_mul]
  generalize n / B32 ^ (i / 4) = q
  have hr : i % 4 < 4 := Nat.mod_lt _ (by omega)
  generalize i % 4 = r at *
  have e2 : B32 = 2 ^ (8 * r) * (256 * 2 ^ (24 - 8 * r)) := by
    rw [show (256 : Nat) = 2 ^ 8 from rfl, ← Nat.pow_add, ← Nat.pow_add, show B32 = 2 ^ 32 from rfl]; congr 1; omega
  rw [e2, Nat.mod_mul_right_div_self, Nat.mod_mod_of_dvd _ (Nat.dvd_mul_right 256 _)]

/-- one byte is appended to a list of the call's own. -/
theorem app_one {W : World} {base : Nat} {v : Value} {l : List Nat} {d : Nat} (hown : Own W base .u8 5 v l) (hlen : l.length ≤ 1099511627776) (hbase : base ≤ W.heap.size) :
    ∃ v' w', (Builtin.append_ #[25, 25] 25 #[v, .slice (some ⟨W.heap.size, 0, none⟩) 1 1]).run Try.prog (W.alloc (.cells #[.int .u8 (d : Int)] 5)) = .ok v' w' ∧ Own w' base .u8 5 v' (l ++ [d]) ∧ Below base W w' := by
  have hb0 : Below W.heap.size W (W.alloc (.cells #[.int .u8 (d : Int)] 5)) := below_alloc (Below.refl _ _) _
  have hblk : Blk (W.alloc (.cells #[.int .u8 (d : Int)] 5)) W.heap.size 5 .u8 [d] := Blk.new W .u8 5 [d]
  have hrd : Rd (W.alloc (.cells #[.int .u8 (d : Int)] 5)) .u8 (some ⟨W.heap.size, 0, none⟩) [d] := fun _ => ⟨_, _, rfl, hblk.row0⟩
  obtain ⟨v', w', hrun, hown', hg, _⟩ := app_n (P := Try.prog) (ty := 25) (c := 1) Try.underlying25 Try.info_u8 (by omega) (hown.below hb0) hrd (by simp only [List.length_cons, List.length_nil]; omega) (Nat.le_trans hbase hb0.size)
  refine ⟨v', w', hrun, hown', (hb0.mono hbase).grown hg (Nat.le_trans hbase hb0.size) (fun k hk => (hown.lt k hk).1)⟩

set_option maxRecDepth 100000 in
set_option maxHeartbeats 1600000 in
theorem nbytes_any (A : Option Addr) (c n : Nat) (w : World) (hr : Rd w .u32 A (digs B32 n)) (hc : (digs B32 n).length ≤ c) (hlim : (digs B32 n).length ≤ 268435456) :
    Calls Try.prog 13 #[.slice A (digs B32 n).length c] w (RetSl w .u8 (byb n)) := by
  have okL := hide (digs_ok B32_ge n)
  have hby := hide (fun i => byte_at n i)
  have hnl := digs_lt B32_ge n
  generalize digs B32 n = L at *
  generalize hp : L.length = p at *
  have HP := hide hp; clear hp
  have hn4 : n < 256 ^ (4 * p) := by rw [show (256 : Nat) = 2 ^ 8 from rfl, ← Nat.pow_mul, show 8 * (4 * p) = 32 * p by omega, Nat.pow_mul]; exact hnl
  have hn0 := hide (Nat.div_eq_of_lt hn4)
  replace hn4 := hide hn4
  clear hnl
  have iw0 := wrap_in (4 * (p : Int)) (by omega) (by omega)
  have iw1 := wrap_in (4 * (p : Int) - 1) (by omega) (by omega)
  go_enter Try.func13, Try.ntmps13
  go_wp2_with fail
  clear iw0 iw1
  go_loopw [3, 4, 5] (fun v k _ wr => ∃ j : Nat, j ≤ 4 * p ∧ k = .int .i64 ((j : Int) - 1) ∧ Below w.heap.size w wr ∧ Own wr w.heap.size .u8 5 v (byb (n / 256 ^ j))) (fun _ k _ _ => (intOf k + 1).toNat)
  case atStart =>
    refine ⟨4 * p, Nat.le_refl _, by simp, Below.refl _ _, ?_⟩
    rw [hn0.out, byb_zero]
    exact Own.nil _ _ _ _
  case round =>
    obtain ⟨j, hj, rfl, hbw, hown⟩ := hrel
    by_cases h0 : 0 < j
    · obtain ⟨i, rfl⟩ : ∃ i, j = i + 1 := ⟨j - 1, by omega⟩
      rw [show ((i + 1 : Nat) : Int) - 1 = (i : Int) by omega]
      obtain ⟨b, off, rfl, hrow⟩ := hr (by rw [HP.out]; omega)
      have hcell := (hrow.below hbw) (i / 4) (by rw [HP.out]; omega)
      have hx : nth L (i / 4) < B32 := Ok.getD B32_pos okL.out _
      have hbi := hby.out i
      obtain ⟨q, hq⟩ : ∃ q, q = n / 256 ^ (i + 1) := ⟨_, rfl⟩
      obtain ⟨d, hd⟩ : ∃ d, d = n / 256 ^ i % 256 := ⟨_, rfl⟩
      have hn : n / 256 ^ i = d + 256 * q := by
        have := Nat.div_add_mod (n / 256 ^ i) 256
        rw [hq, hd, Nat.pow_succ, ← Nat.div_div_eq_div_mul]; omega
      have hd256 : d < 256 := by rw [hd]; exact Nat.mod_lt _ (by decide)
      rw [← hq] at hown
      rw [← hd] at hbi
      replace hq := hide hq
      replace hd := hide hd
      replace hn := hide hn
      replace hbi := hide hbi
      obtain ⟨A', c', rfl, hc', hrd⟩ := hown.slice
      have Hown := hide hown
      have Hbw := hide hbw
      have Hrd := hide hrd
      clear hown hbw hrd hrow hr
      generalize nth L (i / 4) = y at *
      have i0 : (0 : Int) ≤ (i : Int) / 4 := by omega
      have i1 : (i : Int) / 4 < (p : Int) := by omega
      have i2 : ((i : Int) / 4).toNat = i / 4 := by omega
      have iw := wrap_in ((i : Int) / 4) (by omega) (by omega)
      have iw2 := wrap_in ((i : Int) % 4) (by omega) (by omega)
      have iw3 := wrap_in (8 * ((i : Int) % 4)) (by omega) (by omega)
      have iw4 := wrap_in ((i : Int) - 1) (by omega) (by omega)
      have hE : (y : Int) / 2 ^ (8 * (i % 4)) % 256 = (d : Int) := by
        rw [← hbi.out]; simp
      have Hj := hide hj
      clear hj
      by_cases hd0 : byb q = [] ∧ d = 0
      · have hst := hide (byb_zero_step hd0.1 hd0.2)
        rw [← hn.out] at hst
        obtain ⟨hq0, rfl⟩ := hd0
        have hlen0 : (byb q).length = 0 := by rw [hq0]; rfl
        rw [hlen0]
        replace hq0 := hide hq0
        replace hlen0 := hide hlen0
        go_wp2_with fail
        refine ⟨⟨i, by have := Hj.out; omega, by simp, Hbw.out, ?_⟩, by simp [intOf]⟩
        rw [hst.out]
        have := Hown.out
        rw [hlen0.out] at this
        exact this
      · have hst := hide (byb_step (q := q) hd256 (by
          rcases Classical.em (byb q = []) with h | h
          · exact .inr fun h' => hd0 ⟨h, h'⟩
          · exact .inl h))
        rw [← hn.out] at hst
        have hql : (byb q).length ≤ 4 * p := by
          have := byb_length_le (n := q) (k := 4 * p) (by rw [hq.out]; exact Nat.lt_of_le_of_lt (Nat.div_le_self _ _) hn4.out)
          exact this
        obtain ⟨v', w', hrun, hown2, hbw2⟩ := app_one (d := d) Hown.out (by omega) (Hbw.out.size)
        have Hrun := hide hrun
        have Hown2 := hide hown2
        have Hbw2 := hide (Hbw.out.trans hbw2)
        clear hrun hown2 hbw2
        by_cases hq0 : byb q = []
        · have hd1 : ((d : Int) == 0) = false := by
            rw [beq_eq_false_iff_ne]; intro h; exact hd0 ⟨hq0, by omega⟩
          have hlen0 : (byb q).length = 0 := by rw [hq0]; rfl
          rw [hlen0] at Hrun ⊢
          replace hlen0 := hide hlen0
          replace hq0 := hide hq0
          replace hd0 := hide hd0
          go_wp2_with (at_builtin; refine wpList_app rfl _ _ _ rfl rfl rfl Hrun.out ?_)
          exact ⟨⟨i, by have := Hj.out; omega, by simp, Hbw2.out, by rw [hst.out]; exact Hown2.out⟩, by simp [intOf]⟩
        · have hlen1 : 0 < (byb q).length := Nat.pos_of_ne_zero fun h => hq0 (List.length_eq_zero_iff.1 h)
          generalize (byb q).length = m at *
          replace hq0 := hide hq0
          replace hd0 := hide hd0
          go_wp2_with (at_builtin; refine wpList_app rfl _ _ _ rfl rfl rfl Hrun.out ?_)
          exact ⟨⟨i, by have := Hj.out; omega, by simp, Hbw2.out, by rw [hst.out]; exact Hown2.out⟩, by simp [intOf]⟩
    · obtain rfl : j = 0 := by omega
      rw [Nat.pow_zero, Nat.div_one] at hown
      obtain ⟨A', c', rfl, hc', hrd⟩ := hown.slice
      replace hbw := hide hbw
      replace hrd := hide hrd
      replace hc' := hide hc'
      clear hown
      go_wp2_with fail
      go_ret
      exact retsl_mk hbw.out rfl hc'.out hrd.out
end Go.Proofs.Ytincemkjdgbnnaa

set_option linter.unusedVariables false
set_option linter.unusedSimpArgs false
namespace Go.Proofs.Ytincemkjdgbnnaa
open Go.RowKit Lm

theorem digs_ge_pow {B : Nat} (hB : 2 ≤ B) {b : Nat} (h : 0 < (digs B b).length) : B ^ ((digs B b).length - 1) ≤ b := by
  rcases Nat.lt_or_ge b (B ^ ((digs B b).length - 1)) with h4 | h4
  · have := digs_length_le hB h4; omega
  · exact h4
theorem cmp_lenB {B : Nat} (hB : 2 ≤ B) {a b : Nat} (h : (digs B a).length < (digs B b).length) : a < b := by
  have h2 := digs_lt hB a
  have h3 := digs_ge_pow hB (b := b) (by omega)
  have h5 := Nat.pow_le_pow_right (n := B) (by omega) (show (digs B a).length ≤ (digs B b).length - 1 by omega)
  omega
theorem cmp_atB {B : Nat} {L M : List Nat} (hL : Ok B L) (hM : Ok B M) (hlen : L.length = M.length) {n : Nat} (hn : n < L.length)
    (hz : ∀ i, n < i → i < L.length → nth L i = nth M i) (hlt : nth L n < nth M n) : val B L < val B M := by
  have h1 := val_take_drop (B := B) L (n + 1) (by omega)
  have h2 := val_take_drop (B := B) M (n + 1) (by omega)
  have hd : L.drop (n + 1) = M.drop (n + 1) := by
    apply List.ext_getElem
    · simp [hlen]
    · intro i h3 h4
      simp only [List.length_drop] at h3 h4
      have := hz (n + 1 + i) (by omega) (by omega)
      rw [nth_of_lt (by omega), nth_of_lt (by omega)] at this
      simpa using this
  have t1 := val_take_succ (B := B) L n (by omega)
  have t2 := val_take_succ (B := B) M n (by omega)
  have b1 := val_lt (hL.take n)
  rw [List.length_take, Nat.min_eq_left (by omega)] at b1
  rw [← nth_of_lt] at t1 t2
  rw [h1, h2, hd, t1, t2]
  have : B ^ n * nth L n + B ^ n ≤ B ^ n * nth M n := by rw [← Nat.mul_succ]; exact Nat.mul_le_mul_left _ hlt
  omega

set_option maxRecDepth 100000 in
set_option maxHeartbeats 800000 in
theorem ncmp_any (A A' : Option Addr) (c c' a b : Nat) (w : World) (hr1 : Rd w .u32 A (digs B32 a)) (hr2 : Rd w .u32 A' (digs B32 b)) (hlim : (digs B32 a).length ≤ lim) (hlim' : (digs B32 b).length ≤ lim) :
    Calls Try.prog 21 #[.slice A (digs B32 a).length c, .slice A' (digs B32 b).length c'] w fun e w' => e = .returned (.int .i64 (cmpI a b)) ∧ Below w.heap.size w w' := by
  unfold lim at hlim hlim'
  have HC1 := hide (@cmp_lenB B32 B32_ge a b)
  have HC2 := hide (@cmp_lenB B32 B32_ge b a)
  have hvL := hide (val_digs B32_ge a)
  have hvM := hide (val_digs B32_ge b)
  have okL := digs_ok B32_ge a
  have okM := digs_ok B32_ge b
  generalize digs B32 a = L at *
  generalize digs B32 b = M at *
  generalize hp : L.length = p at *
  generalize hq : M.length = q at *
  have HP := hide hp; clear hp
  have HQ := hide hq; clear hq
  go_enter Try.func21, Try.ntmps21
  by_cases hpq : p = q
  · subst hpq
    have hne : ((p : Int) != (p : Int)) = false := by simp
    have iw0 := wrap_in ((p : Int) - 1) (by omega) (by omega)
    go_wp2_with fail
    go_loopw [5] (fun s wr => ∃ n k : Nat, n ≤ p ∧ s = .int .i64 ((n : Int) - 1) ∧ wr = w.drewN k ∧ Hid (∀ i, n ≤ i → i < p → nth L i = nth M i)) (fun s _ => (intOf s + 1).toNat)
    case atStart => exact ⟨p, 0, Nat.le_refl _, rfl, rfl, fun i h1 h2 => by omega⟩
    case round =>
      obtain ⟨n, k, hn, rfl, rfl, hz⟩ := hrel
      rcases n with _ | n
      · have hfin := hide (show cmpI a b = 0 by
          have : L = M := List.ext_getElem (by rw [HP.out, HQ.out]) fun i h1 h2 => by
            have := hz.out i (by omega) (by rw [← HP.out]; exact h1)
            rwa [nth_of_lt h1, nth_of_lt h2] at this
          have e : a = b := by rw [← hvL.out, ← hvM.out, this]
          unfold cmpI; rw [e]; simp)
        have hd : decide ((0 : Int) ≤ ((0 : Nat) : Int) - 1) = false := by decide
        go_wp2_with fail
        go_ret
        exact ⟨ret_int (by rw [hfin.out]), below_drewN (Below.refl _ _) _⟩
      · rw [show ((n + 1 : Nat) : Int) - 1 = (n : Int) from by omega]
        have i1 : (n : Int) < (p : Int) := by omega
        obtain ⟨b1, off1, rfl, hrow1⟩ := hr1 (by rw [HP.out]; omega)
        obtain ⟨b2, off2, rfl, hrow2⟩ := hr2 (by rw [HQ.out]; omega)
        have hc1 := hrow1 n (by rw [HP.out]; omega)
        have hc2 := hrow2 n (by rw [HQ.out]; omega)
        have hlt1 := hide (cmp_atB okL okM (by rw [HP.out, HQ.out]) (n := n) (by rw [HP.out]; omega) (fun i h1 h2 => hz.out i (by omega) (by rw [← HP.out]; exact h2)))
        have hlt2 := hide (cmp_atB okM okL (by rw [HP.out, HQ.out]) (n := n) (by rw [HQ.out]; omega) (fun i h1 h2 => (hz.out i (by omega) (by rw [← HQ.out]; exact h2)).symm))
        have hzz := hide (show nth L n = nth M n → ∀ i, n ≤ i → i < p → nth L i = nth M i from fun e i h1 h2 => by
          rcases Nat.lt_or_ge i (n + 1) with h3 | h3
          · rw [show i = n by omega]; exact e
          · exact hz.out i h3 h2)
        have iw := wrap_in ((n : Int) - 1) (by omega) (by omega)
        clear hrow1 hrow2 hr1 hr2
        rw [hvL.out, hvM.out] at hlt1
        rw [hvL.out, hvM.out] at hlt2
        generalize nth L n = x at *
        generalize nth M n = y at *
        rcases Nat.lt_trichotomy x y with hxy | hxy | hxy
        · have hd : decide (x < y) = true := decide_eq_true hxy
          have hfin := hide (show cmpI a b = -1 by unfold cmpI; rw [if_pos (hlt1.out hxy)])
          replace hxy := hide hxy
          go_wp2_with fail
          go_quiet (fail)
          go_wp2_with fail
          go_ret
          exact ⟨ret_int hfin.out.symm, (by repeat (first | exact Below.refl _ _ | refine below_drewN ?_ _))⟩
        · have hd : decide (x < y) = false := decide_eq_false (by omega)
          have hd2 : decide (y < x) = false := decide_eq_false (by omega)
          replace hxy := hide hxy
          go_wp2_with fail
          go_quiet (fail)
          go_wp2_with fail
          go_quiet (fail)
          go_wp2_with fail
          refine ⟨⟨n, _, by omega, rfl, rfl, hzz.out hxy.out⟩, by simp [intOf]⟩
        · have hd : decide (x < y) = false := decide_eq_false (by omega)
          have hd2 : decide (y < x) = true := decide_eq_true hxy
          have hfin := hide (show cmpI a b = 1 by unfold cmpI; have := hlt2.out hxy; rw [if_neg (by omega), if_neg (by omega)])
          replace hxy := hide hxy
          go_wp2_with fail
          go_quiet (fail)
          go_wp2_with fail
          go_quiet (fail)
          go_wp2_with fail
          go_ret
          exact ⟨ret_int hfin.out.symm, (by repeat (first | exact Below.refl _ _ | refine below_drewN ?_ _))⟩
  · have hd : ((p : Int) != (q : Int)) = true := by simp; omega
    rcases Nat.lt_or_ge p q with h | h
    · have hd2 : decide (p < q) = true := decide_eq_true h
      have hfin := hide (show cmpI a b = -1 by unfold cmpI; rw [if_pos (HC1.out h)])
      go_wp2_with fail
      go_ret
      exact ⟨ret_int hfin.out.symm, Below.refl _ _⟩
    · have hd2 : decide (p < q) = false := decide_eq_false (by omega)
      have hfin := hide (show cmpI a b = 1 by unfold cmpI; have := HC2.out (by omega); rw [if_neg (by omega), if_neg (by omega)])
      go_wp2_with fail
      go_ret
      exact ⟨ret_int hfin.out.symm, Below.refl _ _⟩

theorem and_u32_one {x : Nat} (hx : x < B32) : bits .and .u32 (x : Int) 1 = ((x % 2 : Nat) : Int) := by
  rw [B32_eq] at hx
  have h1 : (BitVec.ofInt 32 (x : Int)).toNat = x := by rw [BitVec.ofInt_natCast, BitVec.toNat_ofNat, Nat.mod_eq_of_lt (by omega)]
  have h2 : (BitVec.ofInt 32 1).toNat = 1 := by decide
  show IntKind.u32.wrap ((BitVec.ofInt 32 (x : Int) &&& BitVec.ofInt 32 1).toNat : Int) = _
  rw [BitVec.toNat_and, h1, h2, IntKind.wrap_u32, Nat.and_one_is_mod]
  omega

set_option maxHeartbeats 400000 in
theorem nbit_any (A : Option Addr) (c : Nat) (l : List Nat) (i : Nat) (w : World) (hr : Rd w .u32 A l) (hc : l.length ≤ c) (hlim : l.length ≤ lim) (hok : Lm.Ok B32 l) (hi : i ≤ 35184372088832) :
    Calls Try.prog 103 #[.slice A l.length c, .int .i64 (i : Int)] w fun e w' => e = .returned (.int .u32 ((val B32 l / 2 ^ i % 2 : Nat) : Int)) ∧ w' = w := by
  unfold lim at *
  go_enter Try.func103, Try.ntmps103
  by_cases h : i / 32 < l.length
  · obtain ⟨b, off, rfl, hrow⟩ := hr (by omega)
    have hcell := hrow (i / 32) h
    have hlt : nth l (i / 32) < B32 := Ok.getD B32_pos hok _
    have hfin := hide (bit_val (k := 32) (by omega) hok i)
    change Hid (nth l (i / 32) / 2 ^ (i % 32) % 2 = val (2 ^ 32) l / 2 ^ i % 2) at hfin
    clear hrow
    generalize nth l (i / 32) = x at *
    go_wp2_with fail
    go_ret
    refine ⟨ret_int ?_, rfl⟩
    change _ = ((val (2 ^ 32) l / 2 ^ i % 2 : Nat) : Int)
    rw [← hfin.out, ← and_u32_one (Nat.lt_of_le_of_lt (Nat.div_le_self _ _) hlt), Int.natCast_ediv, Int.natCast_pow]; rfl
  · have hd : decide ((l.length : Int) ≤ (i : Int) / 32) = true := by rw [decide_eq_true_iff]; omega
    go_wp2_with fail
    go_ret
    refine ⟨ret_int ?_, rfl⟩
    change _ = ((val (2 ^ 32) l / 2 ^ i % 2 : Nat) : Int)
    rw [← bit_val (k := 32) (by omega) hok i, List.getD_eq_getElem?_getD, List.getElem?_eq_none (by omega)]
    simp

set_option maxRecDepth 100000 in
set_option maxHeartbeats 800000 in
theorem nlen_any (A : Option Addr) (c a : Nat) (w : World) (hr : Rd w .u32 A (digs B32 a)) (hc : (digs B32 a).length ≤ c) (hlim : (digs B32 a).length ≤ 1073741824) :
    Calls Try.prog 102 #[.slice A (digs B32 a).length c] w fun e w' => e = .returned (.int .i64 (blen a : Int)) ∧ w' = w := by
  have Hbit := hide (fun i h => nbit_any A c (digs B32 a) i w hr hc (by unfold lim; omega) (digs_ok B32_ge a) h)
  rw [val_digs B32_ge] at Hbit
  have hlt := digs_lt B32_ge a
  generalize (digs B32 a).length = p at *
  have h2 : a < 2 ^ (32 * p) := by rw [Nat.pow_mul]; exact hlt
  replace h2 := hide h2
  have iw0 := wrap_in (32 * (p : Int)) (by omega) (by omega)
  clear hlt hr
  go_enter Try.func102, Try.ntmps102
  go_wp2_with fail
  clear iw0
  go_loop [3] (fun s => ∃ n : Nat, n ≤ 32 * p ∧ s = .int .i64 n ∧ Hid (a < 2 ^ n)) (fun s => (intOf s).toNat)
  case atStart => exact ⟨32 * p, Nat.le_refl _, by simp, h2⟩
  case round =>
    obtain ⟨n, hn, rfl, hz⟩ := hrel
    rcases n with _ | m
    · have hfin := hide (show blen a = 0 by
        have : a = 0 := by have := hz.out; omega
        rw [this]; rfl)
      go_wp2_with fail
      go_ret
      exact ⟨ret_int (by rw [hfin.out]; rfl), rfl⟩
    · have hb := hide (Hbit.out m (by omega))
      obtain ⟨d, hd⟩ : ∃ d, d = a / 2 ^ m % 2 := ⟨_, rfl⟩
      have hq : a / 2 ^ m < 2 := (Nat.div_lt_iff_lt_mul (Nat.pow_pos (by omega))).2 (by rw [Nat.mul_comm, ← Nat.pow_succ]; exact hz.out)
      rw [← hd] at hb
      rw [Nat.mod_eq_of_lt hq] at hd
      have im : ((m + 1 : Nat) : Int) - 1 = (m : Int) := by omega
      have iw := wrap_in (m : Int) (by omega) (by omega)
      have ip : (0 : Int) < ((m + 1 : Nat) : Int) := by omega
      by_cases hd0 : d = 0
      · subst hd0
        have hz' := hide (show a < 2 ^ m by
          have := Nat.div_eq_zero_iff.1 hd.symm
          have h3 : 0 < 2 ^ m := Nat.pow_pos (by omega)
          omega)
        replace hd := hide hd
        clear hq
        go_wp2_with (go_at_call 103; refine hb.out.mono ?_; rintro e w1 ⟨rfl, rfl⟩)
        exact ⟨⟨m, by omega, rfl, hz'⟩, by simp [intOf]⟩
      · have hd1 : ((d : Int) == 0) = false := by rw [beq_eq_false_iff_ne]; omega
        have hfin := hide (show blen a = m + 1 by
          refine blen_unique (by omega) ?_ hz.out
          have h3 : 1 ≤ a / 2 ^ m := by omega
          have := (Nat.le_div_iff_mul_le (Nat.pow_pos (by omega) : 0 < 2 ^ m)).1 h3
          rw [Nat.add_sub_cancel]; omega)
        replace hd := hide hd
        clear hq
        go_wp2_with (go_at_call 103; refine hb.out.mono ?_; rintro e w1 ⟨rfl, rfl⟩)
        go_ret
        exact ⟨ret_int (by rw [hfin.out]; rfl), rfl⟩
end Go.Proofs.Ytincemkjdgbnnaa

set_option linter.unusedVariables false
set_option linter.unusedSimpArgs false
namespace Go.Proofs.Ytincemkjdgbnnaa
open Go.RowKit Lm

/-- what is borrowed behind the first digits. -/
def bor (X Y : Nat) : Nat := if X < Y then 1 else 0
theorem bor_le (X Y : Nat) : bor X Y ≤ 1 := by unfold bor; split <;> omega
theorem sub_lt {P X Y : Nat} (hX : X < P) (hY : Y < P) : X + bor X Y * P - Y < P := by
  unfold bor; split
  · rw [Nat.one_mul]; omega
  · omega
/-- one digit of a difference. -/
theorem sub_step {B P X Y x y : Nat} (hX : X < P) (hY : Y < P) (hx : x < B) (hy : y < B) :
    (x < bor X Y + y ↔ X + P * x < Y + P * y) ∧
    (X + P * x + bor (X + P * x) (Y + P * y) * (P * B) - (Y + P * y) = (X + bor X Y * P - Y) + P * (x + bor (X + P * x) (Y + P * y) * B - (bor X Y + y))) ∧
    bor X Y + y ≤ x + bor (X + P * x) (Y + P * y) * B ∧ x + bor (X + P * x) (Y + P * y) * B - (bor X Y + y) < B := by
  have hiff : x < bor X Y + y ↔ X + P * x < Y + P * y := by
    unfold bor
    split
    · constructor
      · intro h
        have := Nat.mul_le_mul_left P (show x ≤ y by omega)
        omega
      · intro h
        rcases Nat.lt_or_ge x (1 + y) with h1 | h1
        · exact h1
        · have := Nat.mul_le_mul_left P (show y + 1 ≤ x by omega)
          rw [Nat.mul_succ] at this
          omega
    · constructor
      · intro h
        have := Nat.mul_le_mul_left P (show x + 1 ≤ y by omega)
        rw [Nat.mul_succ] at this
        omega
      · intro h
        rcases Nat.lt_or_ge x (0 + y) with h1 | h1
        · exact h1
        · have := Nat.mul_le_mul_left P (show y ≤ x by omega)
          omega
  refine ⟨hiff, ?_⟩
  by_cases h : X + P * x < Y + P * y
  · have hlt := hiff.2 h
    have e : bor (X + P * x) (Y + P * y) = 1 := by unfold bor; rw [if_pos h]
    have hb := bor_le X Y
    rw [e, Nat.one_mul, Nat.one_mul]
    obtain ⟨t, ht⟩ : ∃ t, t = x + B - (bor X Y + y) := ⟨_, rfl⟩
    have h1 : P * (x + B) = P * (t + (bor X Y + y)) := by congr 1; omega
    rw [← ht]
    rw [Nat.mul_add, Nat.mul_add, Nat.mul_add] at h1
    refine ⟨?_, by omega, by omega⟩
    by_cases hXY : X < Y
    · have e0 : bor X Y = 1 := if_pos hXY
      rw [e0, Nat.mul_one] at h1
      rw [e0, Nat.one_mul]
      omega
    · have e0 : bor X Y = 0 := if_neg hXY
      rw [e0, Nat.mul_zero] at h1
      rw [e0, Nat.zero_mul]
      omega
  · have hge : ¬ x < bor X Y + y := fun h' => h (hiff.1 h')
    have e : bor (X + P * x) (Y + P * y) = 0 := by unfold bor; rw [if_neg h]
    rw [e, Nat.zero_mul, Nat.zero_mul, Nat.add_zero, Nat.add_zero]
    obtain ⟨t, ht⟩ : ∃ t, t = x - (bor X Y + y) := ⟨_, rfl⟩
    have h1 : P * x = P * (t + (bor X Y + y)) := by congr 1; omega
    rw [← ht]
    rw [Nat.mul_add, Nat.mul_add] at h1
    refine ⟨?_, by omega, by omega⟩
    by_cases hXY : X < Y
    · have e0 : bor X Y = 1 := if_pos hXY
      rw [e0, Nat.mul_one] at h1
      rw [e0, Nat.one_mul]
      omega
    · have e0 : bor X Y = 0 := if_neg hXY
      rw [e0, Nat.mul_zero] at h1
      rw [e0, Nat.zero_mul]
      omega

set_option maxRecDepth 100000 in
set_option maxHeartbeats 1600000 in
theorem nsub_any (A A' : Option Addr) (c c' a b : Nat) (w : World) (hr : Rd w .u32 A (digs B32 a)) (hc : (digs B32 a).length ≤ c) (hlim : (digs B32 a).length < lim)
    (hr' : Rd w .u32 A' (digs B32 b)) (hc' : (digs B32 b).length ≤ c') (hab : b ≤ a) :
    Calls Try.prog 76 #[.slice A (digs B32 a).length c, .slice A' (digs B32 b).length c'] w (RetSl w .u32 (digs B32 (a - b))) := by
  have HA := hide (val_digs B32_ge a)
  have HB := hide (val_digs B32_ge b)
  have okL := hide (digs_ok B32_ge a)
  have okM := hide (digs_ok B32_ge b)
  have hqp : (digs B32 b).length ≤ (digs B32 a).length := digs_length_le B32_ge (Nat.lt_of_le_of_lt hab (digs_lt B32_ge a))
  unfold lim at hlim
  generalize digs B32 a = L at *
  generalize digs B32 b = M at *
  generalize hp : L.length = p at *
  generalize hq : M.length = q at *
  have HP := hide hp; clear hp
  have HQ := hide hq; clear hq
  have hmk := mk_u32 (p : Int) p rfl (by unfold lim; omega)
  go_enter Try.func76, Try.ntmps76
  go_wp2_with fail
  clear hmk
  go_loopw [6, 7, 8, 9] (fun cy k _ _ wr => ∃ i : Nat, i ≤ p ∧ k = .int .i64 i ∧ cy = .int .u64 ((bor (val B32 (L.take i)) (val B32 (M.take i)) : Nat) : Int) ∧
    Only (w.alloc (nblk .u32 95 (List.replicate p 0))) wr w.heap.size ∧
    Blk wr w.heap.size 95 .u32 (ch B32 i (val B32 (L.take i) + bor (val B32 (L.take i)) (val B32 (M.take i)) * B32 ^ i - val B32 (M.take i)) (List.replicate p 0))) (fun _ k _ _ _ => p - (intOf k).toNat)
  case atStart =>
    exact ⟨0, Nat.zero_le _, rfl, rfl, Only.refl _ _, by rw [ch_zero]; exact Blk.new _ _ _ _⟩
  case round =>
    obtain ⟨i, hi, rfl, rfl, hon, hblk⟩ := hrel
    have hX := vt_lt okL.out B32_pos i
    have hY := vt_lt okM.out B32_pos i
    have hV := sub_lt hX hY
    by_cases hlt : i < p
    · have hx : nth L i < B32 := Ok.getD B32_pos okL.out _
      have hy : nth M i < B32 := Ok.getD B32_pos okM.out _
      have hcl : (ch B32 i (val B32 (L.take i) + bor (val B32 (L.take i)) (val B32 (M.take i)) * B32 ^ i - val B32 (M.take i)) (List.replicate p 0)).length = p := by rw [ch_length (by simp; omega)]; simp
      have hcell2 := hblk.cell (i := i) (by rw [hcl]; exact hlt)
      have hfr := hblk.frozen i
      obtain ⟨s1, s2, s3, s4⟩ := sub_step (B := B32) hX hY hx hy
      rw [← vt_succ', ← vt_succ'] at s1 s2 s3 s4
      rw [← Nat.pow_succ] at s2
      have hble := bor_le (val B32 (L.take i)) (val B32 (M.take i))
      have hble' := bor_le (val B32 (L.take (i + 1))) (val B32 (M.take (i + 1)))
      have hbd : bor (val B32 (L.take (i + 1))) (val B32 (M.take (i + 1))) = if nth L i < bor (val B32 (L.take i)) (val B32 (M.take i)) + nth M i then 1 else 0 := by
        unfold bor
        unfold bor at s1
        by_cases h : val B32 (L.take (i + 1)) < val B32 (M.take (i + 1))
        · rw [if_pos h, if_pos (s1.2 h)]
        · rw [if_neg h, if_neg (fun h' => h (s1.1 h'))]
      have HBx := hide (show Blk (wr.setCell ⟨w.heap.size, i, none⟩ (.int .u32 ((nth L i + bor (val B32 (L.take (i + 1))) (val B32 (M.take (i + 1))) * B32 - (bor (val B32 (L.take i)) (val B32 (M.take i)) + nth M i) : Nat) : Int))) w.heap.size 95 .u32
          (ch B32 (i + 1) (val B32 (L.take (i + 1)) + bor (val B32 (L.take (i + 1))) (val B32 (M.take (i + 1))) * B32 ^ (i + 1) - val B32 (M.take (i + 1))) (List.replicate p 0)) by
        have h1 := hblk.set_ i (E := _) (z := nth L i + bor (val B32 (L.take (i + 1))) (val B32 (M.take (i + 1))) * B32 - (bor (val B32 (L.take i)) (val B32 (M.take i)) + nth M i)) rfl
        rw [ch_set (by simp; omega) hV s4] at h1
        rw [s2]
        exact h1)
      obtain ⟨b0, off, rfl, hrow⟩ := hr (by rw [HP.out]; omega)
      have hbw := hrow.lt (by rw [HP.out]; omega)
      have hcL := hon.row (hrow.below ((Below.refl _ _).alloc (Nat.le_refl _) _)) (by omega) i (by rw [HP.out]; exact hlt)
      have hrM : i < q → wr.cell? ⟨(A'.getD ⟨0, 0, none⟩).block, (A'.getD ⟨0, 0, none⟩).off + i, none⟩ = some (.int .u32 (nth M i : Int)) ∧ A' = some ⟨(A'.getD ⟨0, 0, none⟩).block, (A'.getD ⟨0, 0, none⟩).off, none⟩ := fun h => by
        obtain ⟨b0, off, rfl, hrow⟩ := hr' (by rw [HQ.out]; omega)
        have hbw := hrow.lt (by rw [HQ.out]; omega)
        exact ⟨hon.row (hrow.below ((Below.refl _ _).alloc (Nat.le_refl _) _)) (by omega) i (by rw [HQ.out]; exact h), rfl⟩
      have hzM : q ≤ i → nth M i = 0 := fun h => nth_of_ge (by rw [HQ.out]; exact h)
      have Hon := hide hon
      have hrM := hide hrM
      have hzM := hide hzM
      clear hcl hblk hon hrow hbw hr hX hY hV s1 s2
      generalize hbo : bor (val B32 (L.take i)) (val B32 (M.take i)) = k0 at *
      generalize hbo' : bor (val B32 (L.take (i + 1))) (val B32 (M.take (i + 1))) = k1 at *
      replace hbo := hide hbo
      replace hbo' := hide hbo'
      generalize nth L i = x at *
      generalize nth M i = y at *
      obtain ⟨s, hs⟩ : ∃ s, s = k0 + y := ⟨_, rfl⟩
      obtain ⟨d, hd⟩ : ∃ d, d = x + k1 * B32 - (k0 + y) := ⟨_, rfl⟩
      rw [← hd] at HBx s4
      have ex : IntKind.u64.wrap (x : Int) = (x : Int) := wrap_u _ (by omega) (by rw [B32_eq] at hx; omega)
      have ey : IntKind.u64.wrap (y : Int) = (y : Int) := wrap_u _ (by omega) (by rw [B32_eq] at hy; omega)
      have iw := wrap_in ((i : Int) + 1) (by omega) (by omega)
      rw [B32_eq] at hx hy s3 s4 hd
      rw [← hs] at hbd s3 hd
      have ed : (d : Int) % 4294967296 = (d : Int) := by omega
      by_cases hxs : x < s
      · rw [if_pos hxs] at hbd
        subst hbd
        have hdx : decide (x < s) = true := decide_eq_true hxs
        have e3 : IntKind.u64.wrap ((x : Int) + 4294967296) = ((x + 4294967296 : Nat) : Int) := by rw [wrap_u] <;> omega
        have e4 : IntKind.u64.wrap (((x + 4294967296 : Nat) : Int) - (s : Int)) = (d : Int) := by rw [wrap_u] <;> omega
        generalize x + 4294967296 = x' at *
        by_cases hiq : i < q
        · obtain ⟨hcM, hA'⟩ := hrM.out hiq
          clear hrM hzM
          generalize (A'.getD ⟨0, 0, none⟩).block = b0' at *
          generalize (A'.getD ⟨0, 0, none⟩).off = o0' at *
          subst hA'
          have e1 : IntKind.u64.wrap ((k0 : Int) + (y : Int)) = (s : Int) := by rw [wrap_u] <;> omega
          replace hd := hide hd
          replace hs := hide hs
          replace hxs := hide hxs
          clear hx hy hble hble' s3 s4
          go_wp2_with fail
          exact ⟨⟨i + 1, by omega, by simp, by rw [hbo'.out]; rfl, Hon.out.set_ _ _, by rw [hbo'.out]; exact HBx.out⟩, by simp [intOf]; omega⟩
        · obtain rfl : y = 0 := hzM.out (by omega)
          clear hrM hzM
          obtain rfl : s = k0 := by omega
          replace hd := hide hd
          replace hxs := hide hxs
          clear hx hy hble hble' s3 s4 hs
          go_wp2_with fail
          exact ⟨⟨i + 1, by omega, by simp, by rw [hbo'.out]; rfl, Hon.out.set_ _ _, by rw [hbo'.out]; exact HBx.out⟩, by simp [intOf]; omega⟩
      · rw [if_neg hxs] at hbd
        subst hbd
        have hdx : decide (x < s) = false := decide_eq_false hxs
        have e4 : IntKind.u64.wrap ((x : Int) - (s : Int)) = (d : Int) := by rw [wrap_u] <;> omega
        by_cases hiq : i < q
        · obtain ⟨hcM, hA'⟩ := hrM.out hiq
          clear hrM hzM
          generalize (A'.getD ⟨0, 0, none⟩).block = b0' at *
          generalize (A'.getD ⟨0, 0, none⟩).off = o0' at *
          subst hA'
          have e1 : IntKind.u64.wrap ((k0 : Int) + (y : Int)) = (s : Int) := by rw [wrap_u] <;> omega
          replace hd := hide hd
          replace hs := hide hs
          replace hxs := hide hxs
          clear hx hy hble hble' s3 s4
          go_wp2_with fail
          exact ⟨⟨i + 1, by omega, by simp, by rw [hbo'.out]; rfl, Hon.out.set_ _ _, by rw [hbo'.out]; exact HBx.out⟩, by simp [intOf]; omega⟩
        · obtain rfl : y = 0 := hzM.out (by omega)
          clear hrM hzM
          obtain rfl : s = k0 := by omega
          replace hd := hide hd
          replace hxs := hide hxs
          clear hx hy hble hble' s3 s4 hs
          go_wp2_with fail
          exact ⟨⟨i + 1, by omega, by simp, by rw [hbo'.out]; rfl, Hon.out.set_ _ _, by rw [hbo'.out]; exact HBx.out⟩, by simp [intOf]; omega⟩
    · obtain rfl : i = p := by omega
      have hbw : Below w.heap.size w wr := Only.below ((Below.refl _ _).alloc (Nat.le_refl _) _) hon (Nat.le_refl _)
      have hba : bor a b = 0 := by unfold bor; rw [if_neg (by omega)]
      rw [ch_full' (by simp), vt_full L (by rw [HP.out]; omega), vt_full M (by rw [HQ.out]; omega), HA.out, HB.out, hba, Nat.zero_mul, Nat.add_zero] at hblk
      have hlt' : a - b < B32 ^ i := by
        have h1 := val_lt okL.out
        rw [HP.out, HA.out] at h1
        omega
      have htr := ntrim_any (some ⟨w.heap.size, 0, none⟩) i (fix B32 i (a - b)) wr (fun _ => ⟨_, _, rfl, hblk.row0⟩) (by rw [fix_length]; exact Nat.le_refl _) (by rw [fix_length]; unfold lim; omega) (fix_ok B32_pos _ _)
      rw [fix_length, val_fix_of_lt hlt'] at htr
      have Htr := hide htr
      have hbw := hide hbw
      clear htr hblk hon hV hX hY hlt'
      go_wp2_with fail
      refine Htr.out.mono ?_
      rintro e w2 ⟨A2, c2, rfl, hc2, hr2, hb2⟩
      have hb2 := hide hb2
      go_wp2_with fail
      go_ret
      exact retsl_mk (below_next hbw.out hb2.out) rfl hc2 hr2
end Go.Proofs.Ytincemkjdgbnnaa

set_option linter.unusedVariables false
set_option linter.unusedSimpArgs false
namespace Go.Proofs.Ytincemkjdgbnnaa
open Go.RowKit Lm

theorem shr_digit32 {L : List Nat} (hL : Ok B32 L) (i s : Nat) (hs : s < 32) : (nth L i + nth L (i + 1) * B32) / 2 ^ s % B32 = val B32 L / 2 ^ s / B32 ^ i % B32 := by
  rw [nth_val B32_pos i hL, nth_val B32_pos (i + 1) hL, Nat.pow_succ, ← Nat.div_div_eq_div_mul, Nat.div_div_eq_div_mul _ (2 ^ s), Nat.mul_comm (2 ^ s), ← Nat.div_div_eq_div_mul _ (B32 ^ i)]
  generalize val B32 L / B32 ^ i = q
  have h1 : q % B32 + q / B32 % B32 * B32 = q % (B32 * B32) := by rw [Nat.mod_mul, Nat.mul_comm]
  have e2 : B32 * B32 = 2 ^ s * (B32 * 2 ^ (32 - s)) := by
    rw [show B32 = 2 ^ 32 from rfl, ← Nat.pow_add, ← Nat.pow_add, ← Nat.pow_add]; congr 1; omega
  rw [h1, e2, Nat.mod_mul_right_div_self, Nat.mod_mod_of_dvd _ (Nat.dvd_mul_right B32 _)]

set_option maxRecDepth 100000 in
set_option maxHeartbeats 1600000 in
theorem nshr_any (A : Option Addr) (c a s : Nat) (w : World) (hs : s < 32) (hr : Rd w .u32 A (digs B32 a)) (hc : (digs B32 a).length ≤ c) (hlim : (digs B32 a).length < lim) :
    Calls Try.prog 81 #[.slice A (digs B32 a).length c, .int .i64 (s : Int)] w (RetSl w .u32 (digs B32 (a / 2 ^ s))) := by
  have HA := hide (val_digs B32_ge a)
  have okL := hide (digs_ok B32_ge a)
  have hlt0 := digs_lt B32_ge a
  have hsd := hide (fun i => shr_digit32 (digs_ok B32_ge a) i s hs)
  rw [val_digs B32_ge] at hsd
  unfold lim at hlim
  generalize digs B32 a = L at *
  generalize hp : L.length = p at *
  have HP := hide hp; clear hp
  have iq : (s : Int) / 32 = 0 := by omega
  have ir : (s : Int) % 32 = (s : Int) := by omega
  have Hlt := hide hlt0
  clear hlt0
  by_cases hp0 : p = 0
  · subst hp0
    have ha : a = 0 := by have h := Hlt.out; rw [Nat.pow_zero] at h; omega
    subst ha
    clear hsd HA Hlt hr
    go_enter Try.func81, Try.ntmps81
    go_wp2_with fail
    go_ret
    exact retsl_mk (Below.refl _ _) (by rw [Nat.zero_div, digs_zero]; rfl) (Nat.le_refl _) (by rw [Nat.zero_div, digs_zero]; exact Rd.nil _ _ _)
  have hmk := mk_u32 (p : Int) p rfl (by unfold lim; omega)
  have hpp : ¬ (p : Int) ≤ 0 := by omega
  go_enter Try.func81, Try.ntmps81
  go_wp2_with fail
  clear hmk hpp
  go_loopw [6, 7] (fun k _ wr => ∃ i : Nat, i ≤ p ∧ k = .int .i64 i ∧ Only (w.alloc (nblk .u32 95 (List.replicate p 0))) wr w.heap.size ∧
    Blk wr w.heap.size 95 .u32 (ch B32 i (a / 2 ^ s % B32 ^ i) (List.replicate p 0))) (fun k _ _ => p - (intOf k).toNat)
  case atStart =>
    exact ⟨0, Nat.zero_le _, rfl, Only.refl _ _, by rw [ch_zero]; exact Blk.new _ _ _ _⟩
  case round =>
    obtain ⟨i, hi, rfl, hon, hblk⟩ := hrel
    by_cases hlt : i < p
    · obtain ⟨b0, off, rfl, hrow⟩ := hr (by rw [HP.out]; omega)
      have hbw := hrow.lt (by rw [HP.out]; omega)
      have hrow2 := hon.row (hrow.below ((Below.refl _ _).alloc (Nat.le_refl _) _)) (by omega)
      have hcell := hrow2 i (by rw [HP.out]; exact hlt)
      have hx : nth L i < B32 := Ok.getD B32_pos okL.out _
      have hy : nth L (i + 1) < B32 := Ok.getD B32_pos okL.out _
      have hcl : (ch B32 i (a / 2 ^ s % B32 ^ i) (List.replicate p 0)).length = p := by rw [ch_length (by simp; omega)]; simp
      have hcell2 := hblk.cell (i := i) (by rw [hcl]; exact hlt)
      have hfr := hblk.frozen i
      obtain ⟨d, hd⟩ : ∃ d, d = (nth L i + nth L (i + 1) * B32) / 2 ^ s % B32 := ⟨_, rfl⟩
      have hdB : d < B32 := by rw [hd]; exact Nat.mod_lt _ B32_pos
      have HBx := hide (show Blk (wr.setCell ⟨w.heap.size, i, none⟩ (.int .u32 (d : Int))) w.heap.size 95 .u32 (ch B32 (i + 1) (a / 2 ^ s % B32 ^ (i + 1)) (List.replicate p 0)) by
        have h1 := hblk.set_ i (E := _) (z := d) rfl
        rw [ch_set (by simp; omega) (Nat.mod_lt _ (p32_pos i)) hdB] at h1
        rw [Nat.pow_succ, Nat.mod_mul, ← hsd.out i, ← hd]
        exact h1)
      have hz : ¬ i + 1 < p → nth L (i + 1) = 0 := fun h => nth_of_ge (by rw [HP.out]; omega)
      have hc1 : i + 1 < p → wr.cell? ⟨b0, off + (i + 1), none⟩ = some (.int .u32 (nth L (i + 1) : Int)) := fun h => hrow2 (i + 1) (by rw [HP.out]; exact h)
      have Hon := hide hon
      replace hz := hide hz
      replace hc1 := hide hc1
      clear hcl hblk hon hrow hrow2 hbw hr
      generalize nth L i = x at *
      generalize nth L (i + 1) = y at *
      have ex : IntKind.u64.wrap (x : Int) = (x : Int) := wrap_u _ (by omega) (by rw [B32_eq] at hx; omega)
      have ey : IntKind.u64.wrap (y : Int) = (y : Int) := wrap_u _ (by omega) (by rw [B32_eq] at hy; omega)
      have iw := wrap_in ((i : Int) + 1) (by omega) (by omega)
      have iw2 := wrap_in (i : Int) (by omega) (by omega)
      by_cases h1 : i + 1 < p
      · have hcy := hc1.out h1
        have hd1 : (i : Int) + 1 < (p : Int) := by omega
        have i3 : ((i : Int) + 1).toNat = i + 1 := by omega
        have i4 : (0 : Int) ≤ (i : Int) + 1 := by omega
        obtain ⟨yh, hyh⟩ : ∃ yh, yh = y * B32 := ⟨_, rfl⟩
        have ew : IntKind.u64.wrap ((y : Int) * 4294967296) = (yh : Int) := by rw [hyh, B32_eq]; rw [B32_eq] at hy; rw [wrap_u] <;> omega
        have hyB : yh < B64 := by rw [hyh, B64_eq, B32_eq]; rw [B32_eq] at hy; omega
        have hxB : x < B64 := by rw [B64_eq]; rw [B32_eq] at hx; omega
        have eo : bits .or .u64 (x : Int) (yh : Int) = ((x + yh : Nat) : Int) := by
          rw [or_u64 hxB hyB, Nat.or_comm, or_add (m := 32) (by rw [hyh]; exact Nat.mul_mod_left _ _) hx, Nat.add_comm]
        obtain ⟨W, hW⟩ : ∃ W, W = x + yh := ⟨_, rfl⟩
        rw [← hW] at eo
        have ed : (W : Int) / 2 ^ s % 4294967296 = (d : Int) := by rw [hd, ← hyh, ← hW, B32_eq]; simp
        replace hd := hide hd
        replace hW := hide hW
        replace hyh := hide hyh
        replace h1 := hide h1
        go_wp2_with fail
        exact ⟨⟨i + 1, by omega, by simp, Hon.out.set_ _ _, HBx.out⟩, by simp [intOf]; omega⟩
      · obtain rfl : y = 0 := hz.out h1
        have hd1 : ¬ (i : Int) + 1 < (p : Int) := by omega
        have ed : (x : Int) / 2 ^ s % 4294967296 = (d : Int) := by rw [hd, Nat.zero_mul, Nat.add_zero, B32_eq]; simp
        replace hd := hide hd
        replace h1 := hide h1
        go_wp2_with fail
        exact ⟨⟨i + 1, by omega, by simp, Hon.out.set_ _ _, HBx.out⟩, by simp [intOf]; omega⟩
    · obtain rfl : i = p := by omega
      have hbw : Below w.heap.size w wr := Only.below ((Below.refl _ _).alloc (Nat.le_refl _) _) hon (Nat.le_refl _)
      have hlt' : a / 2 ^ s < B32 ^ i := Nat.lt_of_le_of_lt (Nat.div_le_self _ _) Hlt.out
      rw [ch_full' (by simp), Nat.mod_eq_of_lt hlt'] at hblk
      have htr := ntrim_any (some ⟨w.heap.size, 0, none⟩) i (fix B32 i (a / 2 ^ s)) wr (fun _ => ⟨_, _, rfl, hblk.row0⟩) (by rw [fix_length]; exact Nat.le_refl _) (by rw [fix_length]; unfold lim; omega) (fix_ok B32_pos _ _)
      rw [fix_length, val_fix_of_lt hlt'] at htr
      have Htr := hide htr
      have hbw := hide hbw
      clear htr hblk hon hlt'
      go_wp2_with fail
      refine Htr.out.mono ?_
      rintro e w2 ⟨A2, c2, rfl, hc2, hr2, hb2⟩
      have hb2 := hide hb2
      go_wp2_with fail
      go_ret
      exact retsl_mk (below_next hbw.out hb2.out) rfl hc2 hr2
end Go.Proofs.Ytincemkjdgbnnaa

set_option linter.unusedVariables false
set_option linter.unusedSimpArgs false
namespace Go.Proofs.Ytincemkjdgbnnaa
open Go.RowKit Lm

/-- one digit of a product is laid into its place. -/
theorem mul_set {F : List Nat} {j f d k0 k1 x y V T : Nat} (hj : j < F.length) (hf : nth F j = f) (hd : d + B32 * k1 = x * y + f + k0) (hv : val B32 F + k0 * B32 ^ j = V + T) :
    val B32 (F.set j d) + k1 * B32 ^ (j + 1) = V + (T + B32 ^ j * (x * y)) := by
  have hs := val_set (B := B32) F j d hj
  rw [← nth_of_lt hj, hf] at hs
  have e1 : B32 ^ j * (d + B32 * k1) = B32 ^ j * (x * y + f + k0) := by rw [hd]
  rw [Nat.mul_add, Nat.mul_add, Nat.mul_add] at e1
  have e2 : k1 * B32 ^ (j + 1) = B32 ^ j * (B32 * k1) := by rw [Nat.pow_succ, Nat.mul_comm k1, Nat.mul_assoc]
  have e3 : k0 * B32 ^ j = B32 ^ j * k0 := Nat.mul_comm _ _
  rw [e3] at hv
  rw [e2]
  omega
theorem nth_set_zero {F : List Nat} {j d n : Nat} (hz : ∀ t, n ≤ t → nth F t = 0) (hj : j < n) : ∀ t, n ≤ t → nth (F.set j d) t = 0 := fun t ht => by
  rw [nth_set_ne (by omega)]; exact hz t ht

set_option maxRecDepth 100000 in
set_option maxHeartbeats 3200000 in
theorem nmul_any (A A' : Option Addr) (c c' a b : Nat) (w : World) (hr : Rd w .u32 A (digs B32 a)) (hc : (digs B32 a).length ≤ c) (hlim : (digs B32 a).length < 1073741824)
    (hr' : Rd w .u32 A' (digs B32 b)) (hc' : (digs B32 b).length ≤ c') (hlim' : (digs B32 b).length < 1073741824) :
    Calls Try.prog 74 #[.slice A (digs B32 a).length c, .slice A' (digs B32 b).length c'] w (RetSl w .u32 (digs B32 (a * b))) := by
  have HA := hide (val_digs B32_ge a)
  have HB := hide (val_digs B32_ge b)
  have okL := hide (digs_ok B32_ge a)
  have okM := hide (digs_ok B32_ge b)
  generalize digs B32 a = L at *
  generalize digs B32 b = M at *
  generalize hp : L.length = p at *
  generalize hq : M.length = q at *
  have HP := hide hp; clear hp
  have HQ := hide hq; clear hq
  obtain ⟨N, hN⟩ : ∃ N, N = p + q := ⟨_, rfl⟩
  have hNI : (p : Int) + (q : Int) = (N : Int) := by omega
  have hmk := mk_u32 (N : Int) N rfl (by unfold lim; omega)
  have iw := wrap_in (N : Int) (by omega) (by omega)
  replace hN := hide hN
  go_enter Try.func74, Try.ntmps74
  go_wp2_with fail
  clear hmk iw hNI
  go_loopw [6, 7, 8, 9] (fun k _ _ _ wr => ∃ (i : Nat) (F : List Nat), i ≤ p ∧ k = .int .i64 i ∧ Only (w.alloc (nblk .u32 95 (List.replicate N 0))) wr w.heap.size ∧
    Blk wr w.heap.size 95 .u32 F ∧ Hid (Ok B32 F ∧ F.length = N ∧ val B32 F = val B32 (L.take i) * b ∧ ∀ t, i + q ≤ t → nth F t = 0)) (fun k _ _ _ _ => p - (intOf k).toNat)
  case atStart =>
    refine ⟨0, List.replicate N 0, Nat.zero_le _, rfl, Only.refl _ _, Blk.new _ _ _ _, Ok.replicate B32_pos _, by simp, by rw [val_replicate]; simp [val], fun t _ => ?_⟩
    rcases Nat.lt_or_ge t N with h | h
    · rw [nth_of_lt (by simpa using h)]; simp
    · exact nth_of_ge (by simpa using h)
  case round =>
    obtain ⟨i, F, hi, rfl, hon, hblk, hF⟩ := hrel
    by_cases hlt : i < p
    · obtain ⟨b0, off, rfl, hrow⟩ := hr (by rw [HP.out]; omega)
      have hbw := hrow.lt (by rw [HP.out]; omega)
      have hx : nth L i < B32 := Ok.getD B32_pos okL.out _
      have HrowL : Hid (∀ W, Only (w.alloc (nblk .u32 95 (List.replicate N 0))) W w.heap.size → W.cell? ⟨b0, off + i, none⟩ = some (.int .u32 (nth L i : Int))) := hide fun W h =>
        h.row (hrow.below ((Below.refl _ _).alloc (Nat.le_refl _) _)) (by omega) i (by rw [HP.out]; exact hlt)
      have hVx := hide (vt_succ' (B := B32) L i)
      have Hon := hide hon
      clear hrow hr hbw
      generalize nth L i = x at *
      generalize val B32 (L.take i) = X at *
      replace hlt := hide hlt
      go_wp2_with fail
      go_loopw [7, 8, 9] (fun cy kk _ wr => ∃ (k k0 : Nat) (F : List Nat), k ≤ q ∧ kk = .int .i64 k ∧ cy = .int .u64 (k0 : Int) ∧ k0 < B32 ∧ Only (w.alloc (nblk .u32 95 (List.replicate N 0))) wr w.heap.size ∧
        Blk wr w.heap.size 95 .u32 F ∧ Hid (Ok B32 F ∧ F.length = N ∧ val B32 F + k0 * B32 ^ (i + k) = X * b + B32 ^ i * (x * val B32 (M.take k)) ∧ ∀ t, i + q ≤ t → nth F t = 0)) (fun _ kk _ _ => q - (intOf kk).toNat)
      case atStart =>
        exact ⟨0, 0, F, Nat.zero_le _, rfl, rfl, B32_pos, hon, hblk, hF.out.1, hF.out.2.1, by rw [hF.out.2.2.1]; simp [val], hF.out.2.2.2⟩
      case round =>
        clear hF hblk hon
        obtain ⟨k, k0, F, hk, rfl, rfl, hk0, hon, hblk, hF⟩ := hrel
        by_cases hkq : k < q
        · obtain ⟨b0', off', rfl, hrow'⟩ := hr' (by rw [HQ.out]; omega)
          have hbw' := hrow'.lt (by rw [HQ.out]; omega)
          have hcM := hon.row (hrow'.below ((Below.refl _ _).alloc (Nat.le_refl _) _)) (by omega) k (by rw [HQ.out]; exact hkq)
          have hcL := HrowL.out wr hon
          have hy : nth M k < B32 := Ok.getD B32_pos okM.out _
          have hj : i + k < F.length := by rw [hF.out.2.1, hN.out]; have := hlt.out; omega
          have hcF := hblk.cell (i := i + k) hj
          have hfr := hblk.frozen (i + k)
          have hf : nth F (i + k) < B32 := Ok.getD B32_pos hF.out.1 _
          obtain ⟨S, hS⟩ : ∃ S, S = x * nth M k + nth F (i + k) + k0 := ⟨_, rfl⟩
          obtain ⟨d, hd⟩ : ∃ d, d = S % B32 := ⟨_, rfl⟩
          obtain ⟨k1, hk1⟩ : ∃ k, k = S / B32 := ⟨_, rfl⟩
          have hdB : d < B32 := by rw [hd]; exact Nat.mod_lt _ B32_pos
          have hxy : x * nth M k ≤ 18446744065119617025 := by
            rw [B32_eq] at hx hy
            have := Nat.mul_le_mul (show x ≤ 4294967295 by omega) (show nth M k ≤ 4294967295 by omega)
            omega
          have hSB : S < B64 := by rw [hS, B64_eq]; rw [B32_eq] at hf hk0; omega
          have hk1B : k1 < B32 := by rw [hk1]; exact (Nat.div_lt_iff_lt_mul B32_pos).2 (Nat.lt_of_lt_of_le hSB (by decide))
          have hnew := hide (show Ok B32 (F.set (i + k) d) ∧ (F.set (i + k) d).length = N ∧ val B32 (F.set (i + k) d) + k1 * B32 ^ (i + (k + 1)) = X * b + B32 ^ i * (x * val B32 (M.take (k + 1))) ∧ ∀ t, i + q ≤ t → nth (F.set (i + k) d) t = 0 from by
            refine ⟨Ok.set hF.out.1 hdB, by rw [List.length_set]; exact hF.out.2.1, ?_, nth_set_zero hF.out.2.2.2 (by omega)⟩
            have h1 := mul_set (d := d) (k1 := k1) (x := x) (y := nth M k) hj rfl (by rw [hd, hk1]; have := Nat.mod_add_div S B32; omega) hF.out.2.2.1
            rw [show i + (k + 1) = i + k + 1 from rfl, h1, vt_succ', Nat.mul_add, Nat.mul_add, Nat.pow_add]
            congr 2
            simp only [Nat.mul_assoc, Nat.mul_left_comm, Nat.mul_comm])
          have HBx := hide (hblk.set_ (i + k) (E := (d : Int)) (z := d) rfl)
          have Hon2 := hide hon
          have Hkq := hide hkq
          clear hon hblk hrow' hbw' hj hr'
          generalize nth F (i + k) = f at *
          generalize nth M k = y at *
          obtain ⟨P1, hP1⟩ : ∃ P1, P1 = x * y := ⟨_, rfl⟩
          obtain ⟨P2, hP2⟩ : ∃ P2, P2 = P1 + f := ⟨_, rfl⟩
          rw [← hP1] at hS hxy
          rw [← hP2] at hS
          have ex : IntKind.u64.wrap (x : Int) = (x : Int) := wrap_u _ (by omega) (by rw [B32_eq] at hx; omega)
          have ey : IntKind.u64.wrap (y : Int) = (y : Int) := wrap_u _ (by omega) (by rw [B32_eq] at hy; omega)
          have ef : IntKind.u64.wrap (f : Int) = (f : Int) := wrap_u _ (by omega) (by rw [B32_eq] at hf; omega)
          have e1 : IntKind.u64.wrap ((x : Int) * (y : Int)) = (P1 : Int) := by
            have : ((x : Int) * (y : Int)) = (P1 : Int) := by rw [hP1]; simp
            rw [this]; exact u64_small P1 (by rw [B64_eq]; omega)
          have e2 : IntKind.u64.wrap ((P1 : Int) + (f : Int)) = (P2 : Int) := by rw [hP2]; rw [B32_eq] at hf; rw [wrap_u] <;> omega
          have e3 : IntKind.u64.wrap ((P2 : Int) + (k0 : Int)) = (S : Int) := by rw [hS]; rw [B64_eq] at hSB; rw [wrap_u] <;> omega
          have ed : (S : Int) % 4294967296 = (d : Int) := by rw [hd, B32_eq]; omega
          have ek : (S : Int) / 4294967296 = (k1 : Int) := by rw [hk1, B32_eq]; omega
          have i1 := wrap_in ((i : Int) + (k : Int)) (by omega) (by omega)
          have i2 : (i : Int) + (k : Int) < (N : Int) := by have := hlt.out; have := hN.out; omega
          have i3 : ((i : Int) + (k : Int)).toNat = i + k := by omega
          have i4 : (0 : Int) ≤ (i : Int) + (k : Int) := by omega
          have i5 := wrap_in ((k : Int) + 1) (by omega) (by omega)
          have il : (i : Int) < (p : Int) := by have := hlt.out; omega
          replace hS := hide hS
          replace hP1 := hide hP1
          replace hP2 := hide hP2
          replace hd := hide hd
          replace hk1 := hide hk1
          clear hx hy hf hk0 hxy hSB hdB
          go_wp2_with fail
          go_region
          go_wp2_with fail
          exact ⟨⟨k + 1, k1, F.set (i + k) d, by have := Hkq.out; omega, by simp, rfl, hk1B, (Hon2.out.drew).set_ _ _, HBx.out.drew, hnew⟩, by simp [intOf]; have := Hkq.out; omega⟩
        · obtain rfl : k = q := by omega
          have hj : i + k < F.length := by rw [hF.out.2.1, hN.out]; have := hlt.out; omega
          have hfr := hblk.frozen (i + k)
          have hcF := hblk.cell (i := i + k) hj
          have hnew := hide (show Ok B32 (F.set (i + k) k0) ∧ (F.set (i + k) k0).length = N ∧ val B32 (F.set (i + k) k0) = val B32 (L.take (i + 1)) * b ∧ ∀ t, i + 1 + k ≤ t → nth (F.set (i + k) k0) t = 0 from by
            refine ⟨Ok.set hF.out.1 hk0, by rw [List.length_set]; exact hF.out.2.1, ?_, fun t ht => by rw [nth_set_ne (by omega)]; exact hF.out.2.2.2 t (by omega)⟩
            have hs := val_set (B := B32) F (i + k) k0 hj
            rw [← nth_of_lt hj, hF.out.2.2.2 (i + k) (Nat.le_refl _), Nat.mul_zero, Nat.add_zero] at hs
            have h1 := hF.out.2.2.1
            rw [vt_full M (by rw [HQ.out]; exact Nat.le_refl _), HB.out, Nat.mul_comm k0] at h1
            rw [hs, h1, hVx.out, Nat.add_mul, Nat.mul_assoc])
          have HBx := hide (hblk.set_ (i + k) (E := (k0 : Int)) (z := k0) rfl)
          have Hon2 := hide hon
          have ek : (k0 : Int) % 4294967296 = (k0 : Int) := by rw [B32_eq] at hk0; omega
          have i1 := wrap_in ((i : Int) + (k : Int)) (by omega) (by omega)
          have i2 : (i : Int) + (k : Int) < (N : Int) := by have := hlt.out; have := hN.out; omega
          have i3 : ((i : Int) + (k : Int)).toNat = i + k := by omega
          have i4 : (0 : Int) ≤ (i : Int) + (k : Int) := by omega
          have i5 := wrap_in ((i : Int) + 1) (by omega) (by omega)
          clear hon hblk hj hk0
          go_wp2_with fail
          exact ⟨⟨i + 1, F.set (i + k) k0, by have := hlt.out; omega, by simp, Hon2.out.set_ _ _, HBx.out, hnew⟩, by simp [intOf]; have := hlt.out; omega⟩
    · obtain rfl : i = p := by omega
      have hbw : Below w.heap.size w wr := Only.below ((Below.refl _ _).alloc (Nat.le_refl _) _) hon (Nat.le_refl _)
      have hv : val B32 F = a * b := by rw [hF.out.2.2.1, vt_full L (by rw [HP.out]; exact Nat.le_refl _), HA.out]
      have hFl := hF.out.2.1
      have htr := ntrim_any (some ⟨w.heap.size, 0, none⟩) N F wr (fun _ => ⟨_, _, rfl, hblk.row0⟩) (by rw [hFl]; exact Nat.le_refl _) (by rw [hFl, hN.out]; unfold lim; omega) hF.out.1
      rw [hFl, hv] at htr
      have Htr := hide htr
      have hbw := hide hbw
      clear htr hblk hon hF hv hFl
      go_wp2_with fail
      refine Htr.out.mono ?_
      rintro e w2 ⟨A2, c2, rfl, hc2, hr2, hb2⟩
      have hb2 := hide hb2
      go_wp2_with fail
      go_ret
      exact retsl_mk (below_next hbw.out hb2.out) rfl hc2 hr2
end Go.Proofs.Ytincemkjdgbnnaa
