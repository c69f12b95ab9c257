/- Walks: the reference's numbers (nat): Bytes. -/
import Derived.Test.YtincemkjdgbnnaaNatD
set_option linter.unusedVariables false
set_option linter.unusedSimpArgs false
namespace Go.Proofs.Ytincemkjdgbnnaa
open Go.RowKit Lm

/-- the bytes of a number, the highest first, without zeros ahead. -/
def byb (n : Nat) : List Nat := (digs 256 n).reverse
theorem byb_zero : byb 0 = [] := by unfold byb; rw [digs_zero]; rfl
theorem byb_step {q d : Nat} (hd : d < 256) (h : byb q ≠ [] ∨ d ≠ 0) : byb (d + 256 * q) = byb q ++ [d] := by
  unfold byb at *
  have hn : d + 256 * q ≠ 0 := by
    rcases h with h | h
    · rintro e
      have : q = 0 := by omega
      subst this
      rw [digs_zero] at h
      exact h rfl
    · omega
  rw [digs_pos hn (by decide), Nat.add_mul_mod_self_left, Nat.mod_eq_of_lt hd, Nat.add_mul_div_left _ _ (by decide), Nat.div_eq_of_lt hd, Nat.zero_add, List.reverse_cons]
theorem byb_zero_step {q d : Nat} (h : byb q = []) (hd : d = 0) : byb (d + 256 * q) = byb q := by
  have hq : q = 0 := by
    unfold byb at h
    exact (digs_eq_nil (by decide)).1 (List.reverse_eq_nil_iff.1 h)
  rw [hq, hd]
theorem be_byb (n : Nat) : be (byb n) = n := by unfold be byb; rw [List.reverse_reverse, val_digs (by decide)]
theorem byb_ok (n : Nat) : Ok 256 (byb n) := fun x hx => digs_ok (B := 256) (by decide) n x (List.mem_reverse.1 hx)
theorem byb_length_le {n k : Nat} (h : n < 256 ^ k) : (byb n).length ≤ k := by unfold byb; rw [List.length_reverse]; exact digs_length_le (by decide) h
theorem nth_val {B : Nat} (hB : 0 < B) : ∀ {L : List Nat} (i : Nat), Ok B L → nth L i = val B L / B ^ i % B
  | [], i, _ => by simp [nth, val]
  | x :: L, 0, h => by
    have hx : x < B := h x List.mem_cons_self
    simp only [val, Nat.pow_zero, Nat.div_one, Nat.add_mul_mod_self_left, Nat.mod_eq_of_lt hx]
    rfl
  | x :: L, i + 1, h => by
    have hx : x < B := h x List.mem_cons_self
    have := nth_val hB i (fun y hy => h y (List.mem_cons_of_mem _ hy) : Ok B L)
    rw [show nth (x :: L) (i + 1) = nth L i from rfl, this]
    simp only [val]
    rw [Nat.pow_succ', ← Nat.div_div_eq_div_mul, Nat.add_mul_div_left _ _ hB, Nat.div_eq_of_lt hx, Nat.zero_add]
/-- a byte of a number, out of its digit. -/
theorem byte_at (n i : Nat) : nth (digs B32 n) (i / 4) / 2 ^ (8 * (i % 4)) % 256 = n / 256 ^ i % 256 := by
  have h1 : nth (digs B32 n) (i / 4) = n / B32 ^ (i / 4) % B32 := by rw [nth_val B32_pos _ (digs_ok B32_ge n), val_digs B32_ge]
  rw [h1]
  have e : 256 ^ i = B32 ^ (i / 4) * 2 ^ (8 * (i % 4)) := by
    rw [show (256 : Nat) = 2 ^ 8 from rfl, show B32 = 2 ^ 32 from rfl, ← Nat.pow_mul, ← Nat.pow_mul, ← Nat.pow_add]
    congr 1
    have := Nat.div_add_mod i 4
    omega
  rw [e, ← Nat.div_div_eq_div_mul]
  generalize n / B32 ^ (i / 4) = q
  have hr : i % 4 < 4 := Nat.mod_lt _ (by omega)
  generalize i % 4 = r at *
  have e2 : B32 = 2 ^ (8 * r) * (256 * 2 ^ (24 - 8 * r)) := by
    rw [show (256 : Nat) = 2 ^ 8 from rfl, ← Nat.pow_add, ← Nat.pow_add, show B32 = 2 ^ 32 from rfl]; congr 1; omega
  rw [e2, Nat.mod_mul_right_div_self, Nat.mod_mod_of_dvd _ (Nat.dvd_mul_right 256 _)]

/-- one byte is appended to a list of the call's own. -/
theorem app_one {W : World} {base : Nat} {v : Value} {l : List Nat} {d : Nat} (hown : Own W base .u8 5 v l) (hlen : l.length ≤ 1099511627776) (hbase : base ≤ W.heap.size) :
    ∃ v' w', (Builtin.append_ #[25, 25] 25 #[v, .slice (some ⟨W.heap.size, 0, none⟩) 1 1]).run Try.prog (W.alloc (.cells #[.int .u8 (d : Int)] 5)) = .ok v' w' ∧ Own w' base .u8 5 v' (l ++ [d]) ∧ Below base W w' := by
  have hb0 : Below W.heap.size W (W.alloc (.cells #[.int .u8 (d : Int)] 5)) := below_alloc (Below.refl _ _) _
  have hblk : Blk (W.alloc (.cells #[.int .u8 (d : Int)] 5)) W.heap.size 5 .u8 [d] := Blk.new W .u8 5 [d]
  have hrd : Rd (W.alloc (.cells #[.int .u8 (d : Int)] 5)) .u8 (some ⟨W.heap.size, 0, none⟩) [d] := fun _ => ⟨_, _, rfl, hblk.row0⟩
  obtain ⟨v', w', hrun, hown', hg, _⟩ := app_n (P := Try.prog) (ty := 25) (c := 1) Try.underlying25 Try.info_u8 (by omega) (hown.below hb0) hrd (by simp only [List.length_cons, List.length_nil]; omega) (Nat.le_trans hbase hb0.size)
  refine ⟨v', w', hrun, hown', (hb0.mono hbase).grown hg (Nat.le_trans hbase hb0.size) (fun k hk => (hown.lt k hk).1)⟩

set_option maxRecDepth 100000 in
set_option maxHeartbeats 1600000 in
theorem nbytes_any (A : Option Addr) (c n : Nat) (w : World) (hr : Rd w .u32 A (digs B32 n)) (hc : (digs B32 n).length ≤ c) (hlim : (digs B32 n).length ≤ 268435456) :
    Calls Try.prog 13 #[.slice A (digs B32 n).length c] w (RetSl w .u8 (byb n)) := by
  have okL := hide (digs_ok B32_ge n)
  have hby := hide (fun i => byte_at n i)
  have hnl := digs_lt B32_ge n
  generalize digs B32 n = L at *
  generalize hp : L.length = p at *
  have HP := hide hp; clear hp
  have hn4 : n < 256 ^ (4 * p) := by rw [show (256 : Nat) = 2 ^ 8 from rfl, ← Nat.pow_mul, show 8 * (4 * p) = 32 * p by omega, Nat.pow_mul]; exact hnl
  have hn0 := hide (Nat.div_eq_of_lt hn4)
  replace hn4 := hide hn4
  clear hnl
  have iw0 := wrap_in (4 * (p : Int)) (by omega) (by omega)
  have iw1 := wrap_in (4 * (p : Int) - 1) (by omega) (by omega)
  go_enter Try.func13, Try.ntmps13
  go_wp2_with fail
  clear iw0 iw1
  go_loopw [3, 4, 5] (fun v k _ wr => ∃ j : Nat, j ≤ 4 * p ∧ k = .int .i64 ((j : Int) - 1) ∧ Below w.heap.size w wr ∧ Own wr w.heap.size .u8 5 v (byb (n / 256 ^ j))) (fun _ k _ _ => (intOf k + 1).toNat)
  case atStart =>
    refine ⟨4 * p, Nat.le_refl _, by simp, Below.refl _ _, ?_⟩
    rw [hn0.out, byb_zero]
    exact Own.nil _ _ _ _
  case round =>
    obtain ⟨j, hj, rfl, hbw, hown⟩ := hrel
    by_cases h0 : 0 < j
    · obtain ⟨i, rfl⟩ : ∃ i, j = i + 1 := ⟨j - 1, by omega⟩
      rw [show ((i + 1 : Nat) : Int) - 1 = (i : Int) by omega]
      obtain ⟨b, off, rfl, hrow⟩ := hr (by rw [HP.out]; omega)
      have hcell := (hrow.below hbw) (i / 4) (by rw [HP.out]; omega)
      have hx : nth L (i / 4) < B32 := Ok.getD B32_pos okL.out _
      have hbi := hby.out i
      obtain ⟨q, hq⟩ : ∃ q, q = n / 256 ^ (i + 1) := ⟨_, rfl⟩
      obtain ⟨d, hd⟩ : ∃ d, d = n / 256 ^ i % 256 := ⟨_, rfl⟩
      have hn : n / 256 ^ i = d + 256 * q := by
        have := Nat.div_add_mod (n / 256 ^ i) 256
        rw [hq, hd, Nat.pow_succ, ← Nat.div_div_eq_div_mul]; omega
      have hd256 : d < 256 := by rw [hd]; exact Nat.mod_lt _ (by decide)
      rw [← hq] at hown
      rw [← hd] at hbi
      replace hq := hide hq
      replace hd := hide hd
      replace hn := hide hn
      replace hbi := hide hbi
      obtain ⟨A', c', rfl, hc', hrd⟩ := hown.slice
      have Hown := hide hown
      have Hbw := hide hbw
      have Hrd := hide hrd
      clear hown hbw hrd hrow hr
      generalize nth L (i / 4) = y at *
      have i0 : (0 : Int) ≤ (i : Int) / 4 := by omega
      have i1 : (i : Int) / 4 < (p : Int) := by omega
      have i2 : ((i : Int) / 4).toNat = i / 4 := by omega
      have iw := wrap_in ((i : Int) / 4) (by omega) (by omega)
      have iw2 := wrap_in ((i : Int) % 4) (by omega) (by omega)
      have iw3 := wrap_in (8 * ((i : Int) % 4)) (by omega) (by omega)
      have iw4 := wrap_in ((i : Int) - 1) (by omega) (by omega)
      have hE : (y : Int) / 2 ^ (8 * (i % 4)) % 256 = (d : Int) := by
        rw [← hbi.out]; simp
      have Hj := hide hj
      clear hj
      by_cases hd0 : byb q = [] ∧ d = 0
      · have hst := hide (byb_zero_step hd0.1 hd0.2)
        rw [← hn.out] at hst
        obtain ⟨hq0, rfl⟩ := hd0
        have hlen0 : (byb q).length = 0 := by rw [hq0]; rfl
        rw [hlen0]
        replace hq0 := hide hq0
        replace hlen0 := hide hlen0
        go_wp2_with fail
        refine ⟨⟨i, by have := Hj.out; omega, by simp, Hbw.out, ?_⟩, by simp [intOf]⟩
        rw [hst.out]
        have := Hown.out
        rw [hlen0.out] at this
        exact this
      · have hst := hide (byb_step (q := q) hd256 (by
          rcases Classical.em (byb q = []) with h | h
          · exact .inr fun h' => hd0 ⟨h, h'⟩
          · exact .inl h))
        rw [← hn.out] at hst
        have hql : (byb q).length ≤ 4 * p := by
          have := byb_length_le (n := q) (k := 4 * p) (by rw [hq.out]; exact Nat.lt_of_le_of_lt (Nat.div_le_self _ _) hn4.out)
          exact this
        obtain ⟨v', w', hrun, hown2, hbw2⟩ := app_one (d := d) Hown.out (by omega) (Hbw.out.size)
        have Hrun := hide hrun
        have Hown2 := hide hown2
        have Hbw2 := hide (Hbw.out.trans hbw2)
        clear hrun hown2 hbw2
        by_cases hq0 : byb q = []
        · have hd1 : ((d : Int) == 0) = false := by
            rw [beq_eq_false_iff_ne]; intro h; exact hd0 ⟨hq0, by omega⟩
          have hlen0 : (byb q).length = 0 := by rw [hq0]; rfl
          rw [hlen0] at Hrun ⊢
          replace hlen0 := hide hlen0
          replace hq0 := hide hq0
          replace hd0 := hide hd0
          go_wp2_with (at_builtin; refine wpList_app rfl _ _ _ rfl rfl rfl Hrun.out ?_)
          exact ⟨⟨i, by have := Hj.out; omega, by simp, Hbw2.out, by rw [hst.out]; exact Hown2.out⟩, by simp [intOf]⟩
        · have hlen1 : 0 < (byb q).length := Nat.pos_of_ne_zero fun h => hq0 (List.length_eq_zero_iff.1 h)
          generalize (byb q).length = m at *
          replace hq0 := hide hq0
          replace hd0 := hide hd0
          go_wp2_with (at_builtin; refine wpList_app rfl _ _ _ rfl rfl rfl Hrun.out ?_)
          exact ⟨⟨i, by have := Hj.out; omega, by simp, Hbw2.out, by rw [hst.out]; exact Hown2.out⟩, by simp [intOf]⟩
    · obtain rfl : j = 0 := by omega
      rw [Nat.pow_zero, Nat.div_one] at hown
      obtain ⟨A', c', rfl, hc', hrd⟩ := hown.slice
      replace hbw := hide hbw
      replace hrd := hide hrd
      replace hc' := hide hc'
      clear hown
      go_wp2_with fail
      go_ret
      exact retsl_mk hbw.out rfl hc'.out hrd.out
end Go.Proofs.Ytincemkjdgbnnaa
