/- Walks: quarryref07.Of; law07.both. -/
import Derived.Test.YtincemkjdgbnnaaTwI
set_option linter.unusedVariables false
set_option linter.unusedSimpArgs false
namespace Go.Proofs.Ytincemkjdgbnnaa
open Go.RowKit Lm

set_option maxHeartbeats 400000 in
theorem ntrim_at (A : Option Addr) (c : Nat) (l : List Nat) (w : World) (hr : Rd w .u32 A l) (hc : l.length ≤ c) (hlim : l.length ≤ lim) (hok : Lm.Ok B32 l) :
    Calls Try.prog 62 #[.slice A l.length c] w (RetSA A w .u32 (Lm.digs B32 (Lm.val B32 l))) := by
  unfold lim at hlim
  generalize hlen : l.length = len at *
  have hlen := hide hlen
  go_enter Try.func62, Try.ntmps62
  go_wp2
  go_loop [3] (fun s => ∃ n : Nat, n ≤ len ∧ s = .int .i64 n ∧ Hid (∀ i, n ≤ i → i < len → nth l i = 0)) (fun s => (intOf s).toNat)
  case atStart => exact ⟨len, Nat.le_refl _, rfl, fun i h1 h2 => by omega⟩
  case round =>
    obtain ⟨n, hn, rfl, hz⟩ := hrel
    by_cases h0 : 0 < n
    · obtain ⟨b, off, rfl, hrow⟩ := hr (by rw [hlen.out]; omega)
      have hcell := hrow (n - 1) (by rw [hlen.out]; omega)
      clear hrow
      by_cases hz0 : nth l (n - 1) = 0
      · have hd : ((nth l (n - 1) : Int) == 0) = true := by simp [hz0]
        go_wp2_with fail
        exact ⟨⟨n - 1, by omega, by rw [show ((n - 1 : Nat) : Int) = (n : Int) - 1 from by omega], fun i h1 h2 => by
          rcases Nat.lt_or_ge i n with h3 | h3
          · rw [show i = n - 1 from by omega]; exact hz0
          · exact hz.out i h3 h2⟩, by simp [intOf]; omega⟩
      · have hd : ((nth l (n - 1) : Int) == 0) = false := by rw [beq_eq_false_iff_ne]; omega
        have hfin := hide (ntake_trim hok (n := n) (by rw [hlen.out]; omega) (fun i h1 h2 => hz.out i h1 (by rw [← hlen.out]; exact h2)) (fun _ => hz0))
        go_wp2_with fail
        go_ret
        exact retsa_mk (Below.refl _ _) (by rw [← hfin.out, List.length_take, hlen.out]; omega) (by omega) (by rw [← hfin.out]; exact hr.take n)
    · obtain rfl : n = 0 := by omega
      have hfin := hide (ntake_trim hok (n := 0) (by omega) (fun i h1 h2 => hz.out i h1 (by rw [← hlen.out]; exact h2)) (fun h => absurd h h0))
      go_wp2_with fail
      go_ret
      exact retsa_mk (Below.refl _ _) (by rw [← hfin.out]; simp) (by omega) (by rw [← hfin.out]; exact Rd.nil _ _ _)


/-- a slice in a block of its own. -/
def RetSF (w : World) (k : IntKind) (l : List Nat) (e : Ending) (w' : World) : Prop :=
  ∃ b off c, e = .returned (.slice (some ⟨b, off, none⟩) l.length c) ∧ w.heap.size ≤ b ∧ l.length ≤ c ∧ Rd w' k (some ⟨b, off, none⟩) l ∧ Below w.heap.size w w'
theorem nof_fresh (n : Nat) (w : World) (h : n < B64) : Calls Try.prog 29 #[.int .u64 (n : Int)] w (RetSF w .u32 (digs B32 n)) := by
  have hv := hide (of_digits h)
  obtain ⟨d0, hd0⟩ : ∃ d, d = n % B32 := ⟨_, rfl⟩
  obtain ⟨d1, hd1⟩ : ∃ d, d = n / B32 % B32 := ⟨_, rfl⟩
  have h1 : IntKind.u32.wrap (n : Int) = (d0 : Int) := by rw [hd0, IntKind.wrap_u32, B32_eq]; omega
  have h2 : IntKind.u32.wrap ((n : Int) / 4294967296) = (d1 : Int) := by rw [hd1, IntKind.wrap_u32, B32_eq]; omega
  have hok : Ok B32 [d0, d1] := Ok.cons (by rw [hd0]; exact Nat.mod_lt _ B32_pos) (Ok.cons (by rw [hd1]; exact Nat.mod_lt _ B32_pos) Ok.nil)
  rw [← hd0, ← hd1] at hv
  have hok := hide hok
  clear hd0 hd1
  go_enter Try.func29, Try.ntmps29
  go_wp2_with fail
  have hblk : Blk (w.alloc (.cells #[.int .u32 (d0 : Int), .int .u32 (d1 : Int)] 95)) w.heap.size 95 .u32 [d0, d1] := Blk.new w .u32 95 [d0, d1]
  have ht := ntrim_at (some ⟨w.heap.size, 0, none⟩) 2 [d0, d1] _ (fun _ => ⟨_, _, rfl, hblk.row0⟩) (Nat.le_refl _) (by simp [lim]) hok.out
  rw [hv.out] at ht
  have ht := hide ht
  clear hblk
  refine ht.out.mono ?_
  rintro e w1 ⟨c1, rfl, hc1, hr1, hb1⟩
  have hb := hide (below_then (below_alloc (Below.refl _ _) _) (by simp) hb1)
  clear hb1 ht
  go_wp2_with fail
  go_ret
  exact ⟨_, _, c1, rfl, Nat.le_refl _, hc1, hr1, hb.out⟩

/-- the document's tower: a field, and a number. -/
def vT (A : Option Addr) (P c size : Nat) (A' : Option Addr) (q c' : Nat) : List Value := vF A P c size ++ [Value.slice A' (digs B32 q).length c']
def vT0 : List Value := [.slice none 0 0, .int .i64 0, .slice none 0 0]
theorem Try.szT : (Try.prog.info? 69).map (·.size) = some 3 := by kernel_rfl
theorem Try.zrT : (Try.prog.info? 69).map (·.zero) = some (some (.agg vT0.toArray)) := by kernel_rfl
theorem Try.bldT7 (A : Option Addr) (P c size : Nat) (A' : Option Addr) (n' c' : Nat) (w : World) : (Instr.build 69 #[(0, .agg (vF A P c size).toArray), (1, .slice A' n' c')]).run Try.prog w = .ok (.agg (vF A P c size ++ [Value.slice A' n' c']).toArray) w := by kernel_rfl
theorem noU32T : ∀ x ∈ vT0, ∀ n, x ≠ .int .u32 n := fun x h n => by
  simp only [vT0, List.mem_cons, List.not_mem_nil, or_false] at h
  rcases h with rfl | rfl | rfl <;> simp
/-- the fact of a slice that does not lie in a block. -/
def SLN (b2 : Nat) (q : Nat) (v : Value) (w : World) : Prop := ∃ b off c, v = .slice (some ⟨b, off, none⟩) (digs B32 q).length c ∧ b ≠ b2 ∧ (digs B32 q).length ≤ c ∧ Rd w .u32 (some ⟨b, off, none⟩) (digs B32 q)
theorem SLN.next {b2 q : Nat} {v : Value} {w w' : World} (h : SLN b2 q v w) (hb : Only w w' b2) : SLN b2 q v w' := by
  obtain ⟨b, off, c, h1, h2, h3, h4⟩ := h
  exact ⟨b, off, c, h1, h2, h3, h4.only hb h2⟩
def TLN (A : Option Addr) (P c0 size : Nat) (b2 : Nat) (q : Nat) (v : Value) (w : World) : Prop := ∃ b off c, v = .agg (vT A P c0 size (some ⟨b, off, none⟩) q c).toArray ∧ b ≠ b2 ∧ (digs B32 q).length ≤ c ∧ Rd w .u32 (some ⟨b, off, none⟩) (digs B32 q)
theorem TLN.next {A : Option Addr} {P c0 size b2 q : Nat} {v : Value} {w w' : World} (h : TLN A P c0 size b2 q v w) (hb : Only w w' b2) : TLN A P c0 size b2 q v w' := by
  obtain ⟨b, off, c, h1, h2, h3, h4⟩ := h
  exact ⟨b, off, c, h1, h2, h3, h4.only hb h2⟩
def VTN (A : Option Addr) (P c0 size : Nat) (b2 : Nat) (q : Nat) (w : World) : Prop := ∃ b off c, VB w b2 69 (vT A P c0 size (some ⟨b, off, none⟩) q c) ∧ b ≠ b2 ∧ (digs B32 q).length ≤ c ∧ Rd w .u32 (some ⟨b, off, none⟩) (digs B32 q)
theorem VTN.next {A : Option Addr} {P c0 size b2 q : Nat} {w w' : World} (h : VTN A P c0 size b2 q w) (hb : Below w.heap.size w w') : VTN A P c0 size b2 q w' := by
  obtain ⟨b, off, c, h1, h2, h3, h4⟩ := h
  exact ⟨b, off, c, h1.next hb, h2, h3, h4.below hb⟩
/-- a call hands back the document's tower. -/
def RetRT (w : World) (P size q : Nat) (f : Bool) (e : Ending) (w' : World) : Prop :=
  ∃ A c A' c', e = .returned (.tuple #[.agg (vT A P c size A' q c').toArray, .bool f]) ∧ (digs B32 P).length ≤ c ∧ Rd w' .u32 A (digs B32 P) ∧ (digs B32 q).length ≤ c' ∧ Rd w' .u32 A' (digs B32 q) ∧ Below w.heap.size w w'
/-- the end of a function with two results: a tower that lies in a block, and a slot. -/
theorem retRT {fn : Func} {R : Ending → World → Prop} {a : Act} {w : World} {p u : Tmp} (hr : fn.results = #[.cell p 69, .tmp u]) {b : Nat} {L : List Value} {t : TypeId} (hp : a.tmps.getD p undef = .pointer (some ⟨b, 0, none⟩)) {z : Value} (hz : a.tmps.getD u undef = z)
    (hv : VB w b t L) (hl2 : L.length = 3) (hdf : a.defers = []) (hR : R (.returned (.tuple #[.agg L.toArray, z])) w) : bodyPost Try.prog fn R .ret a w := by
  refine bodyPost_ret (v := .tuple #[.agg L.toArray, z]) ?_ hdf hR
  have hl := run_loadVar_row (P := Try.prog) w b t 69 L.toArray (0, 0) _ hv Try.underlying69 rfl (by rw [Try.szT]; simp [hl2])
  rw [results_cell_tmp hr, hp, hz]
  simp only [asAddr, Sem.run_pure, Result.andThen_ok, hl]

set_option maxRecDepth 100000 in
set_option maxHeartbeats 3200000 in
theorem rof7_2g {P : Nat} (w : World) (Hof : ∀ W, Calls Try.prog 60 #[.int .i64 3] W (RetRF W P 32)) : Calls Try.prog 83 #[.int .i64 2] w (RetRT w P 32 9 true) := by
  have Hof := hide Hof

  unfold RetRF at Hof
  have Hnof := hide (fun W => nof_fresh 9 W (by decide))
  go_enter Try.func83, Try.ntmps83
  have hq0 := hide (St.start w)
  go_upto_region 3 with (first
    | ((with_reducible refine allocS (o := ⟨some 2, _, _, _, _, _⟩) ?_ 69 ?_ hq0.out vT0 Try.zrT ?_); rfl; rfl; intro w1 b2 hS; have hq1 : Hid (St w w1 [⟨b2, 69, vT0⟩]) := hide hS; clear hS)
    | (go_at_call 60; refine (Hof.out w1).mono ?_; rintro e w2 ⟨A2, c2, rfl, hc2, hr2, hb2⟩; replace hc2 := hide hc2; replace hr2 := hide hr2; replace hb2 := hide hb2; have hq2 := hide (hq1.out.next hb2.out))
    | ((with_reducible refine allocSN (o := ⟨some 4, _, _, _, _, _⟩) ?_ 32 ?_ hq2.out [.slice none 0 0, .int .i64 0] Try.zrF ?_); rfl; rfl; intro w3 b4 hS hlo4 hbl4; have hq3 : Hid (St w w3 [⟨b2, 69, vT0⟩, ⟨b4, 32, [.slice none 0 0, .int .i64 0]⟩]) := hide hS; clear hS)
    | ((with_reducible refine storeWS (n := 2) (o := ⟨none, _, _, _, _, _⟩) ?_ 32 (.tmp 4) (.tmp 10) ?_ hq3.out 1 (c := ⟨b4, 32, [.slice none 0 0, .int .i64 0]⟩) ?_ ?_ (vF A2 P c2 32) ?_ ?_ ?_ ?_ Try.szF ?_); rfl; rfl; rfl; rfl; rfl; rfl; rfl; rfl; intro w4 hS hO; have hq4 : Hid (St w w4 [⟨b2, 69, vT0⟩, ⟨b4, 32, vF A2 P c2 32⟩]) := hide hS; have hO4 := hO; clear hS hO))
  clear hq0 hq1 hq2 hq3
  refine region_do 3 26 [fun v _ => v = .agg (vF A2 P c2 32).toArray, fun v w => SLN b2 9 v w, fun v w => TLN A2 P c2 32 b2 9 v w]
    [(4, .pointer (some ⟨b4, 0, none⟩))] (fun w' => St w w' [⟨b2, 69, vT0⟩, ⟨b4, 32, vF A2 P c2 32⟩]) (fun w' => True) 999 none (by kernel_rfl) (by kernel_rfl) rfl rfl
    (.cons (Fact.eq _) rfl (.cons (fun v w w' h hb => h.next (Only.of_below hb)) rfl (.cons (fun v w w' h hb => h.next (Only.of_below hb)) rfl (.nil _)))) (fun w' h => hq4.out.next h) (fun w' h => trivial) (by kernel_rfl) (by exact ⟨rfl, trivial⟩) (.cons ?_ (.cons ?_ (.cons ?_ .nil))) ?_
  · refine Obl.plain rfl _ rfl rfl [] (by kernel_rfl) fun a W hF hC hD K hK => ?_
    have c1 := hC
    have e4 : a.tmps.getD 4 undef = .pointer (some ⟨b4, 0, none⟩) := hF.1
    clear hF hD
    exact wpLd 32 (.tmp 4) rfl (c1.vb 1 _ rfl) 0 e4 (vF A2 P c2 32) (part_all _ rfl) rfl Try.underlying32 rfl Try.szF (hK _ _ rfl (Below.refl _ _))
  · refine Obl.plain rfl _ rfl rfl [] (by kernel_rfl) fun a W hF hC hD K hK => ?_
    have c1 := hC
    clear hF hD
    refine wp_callC #[.int .u64 9] #[.int .u64 9] (by kernel_rfl) rfl (Hnof.out W) (fun e W' ⟨b', off', c', he, hlo, hc', hr', hb'⟩ => ⟨_, he, hK _ _ ⟨b', off', c', rfl, ?_, hc', hr'⟩ hb'⟩)
    exact fun e => absurd (show b2 < W.heap.size from (c1.vb 0 _ rfl).lt) (by omega)
  · refine Obl.plain rfl _ rfl rfl [0, 1] (by kernel_rfl) fun a W hF hC hD K hK => ?_
    have c1 := hC
    have e14 : a.tmps.getD 14 undef = .agg (vF A2 P c2 32).toArray := hD.1
    have e15 : (fun (v : Value) (w : World) => SLN b2 9 v w) (a.tmps.getD 15 undef) W := hD.2.1
    clear hF hD
    obtain ⟨b', off', c', h15, h1, h2, h3⟩ := e15
    exact wp_buildV (v := .agg (vT A2 P c2 32 (some ⟨b', off', none⟩) 9 c').toArray) rfl (by simp only [List.map_toArray, List.map_cons, List.map_nil]; rw [show a.eval (.tmp 14) = _ from e14, show a.eval (.tmp 15) = _ from h15]; exact Try.bldT7 _ _ _ _ _ _ _ _) (hK _ _ ⟨b', off', c', rfl, h1, h2, h3⟩ (Below.refl _ _))
  rintro w5 hB hC _ rfl v15 g15 v16 g16
  change Below _ _ _ at hB
  change wpList _ _ _ _ _ _
  simp only [List.drop_succ_cons, List.drop_zero, Act.put, List.setIfInBounds_toArray, List.set_cons_zero, List.set_cons_succ]
  obtain ⟨b', off', c', rfl, hne, hc', hr'⟩ := g16
  have hS5 := hide (hq4.out.next hB)
  have hR5 := hide (((((hr2.out.toB).next hbl4).only hO4.out hlo4).next hB).rd)
  go_wp2_with ((with_reducible refine storeWS (n := 3) (o := ⟨none, _, _, _, _, _⟩) ?_ 69 (.tmp 2) (.tmp 16) ?_ hS5.out 0 (c := ⟨b2, 69, vT0⟩) ?_ ?_ (vT A2 P c2 32 (some ⟨b', off', none⟩) 9 c') ?_ ?_ ?_ ?_ Try.szT ?_); rfl; rfl; rfl; rfl; rfl; rfl; rfl; rfl; intro w6 hS hO; have hS6 := hide hS; have hO6 := hO; clear hS hO)
  exact retRT rfl rfl rfl (hS6.out.vb 0 _ rfl) rfl rfl ⟨A2, c2, _, c', rfl, hc2.out, hR5.out.apart (hS5.out.vb 0 _ rfl) noU32T hO6.out, hc', hr'.only hO6.out hne, hS6.out.bl⟩

set_option maxRecDepth 100000 in
set_option maxHeartbeats 3200000 in
theorem rof7_xg {P P3 : Nat} {c : Int} (w : World) (f : Bool) (h2 : c ≠ 2) (hf : ((c : Int) == 3) = f) (Hof3 : ∀ W, Calls Try.prog 60 #[.int .i64 3] W (RetRF W P3 32)) (Hof : ∀ W, Calls Try.prog 60 #[.int .i64 5] W (RetRF W P 48)) : Calls Try.prog 83 #[.int .i64 c] w (RetRT w P 48 1 f) := by
  have hd2 : ((c : Int) == 2) = false := by rw [beq_eq_false_iff_ne]; exact h2
  have Hof := hide Hof
  have Hof3 := hide Hof3
  unfold RetRF at Hof Hof3
  have Hnof := hide (fun W => nof_fresh 1 W (by decide))
  go_enter Try.func83, Try.ntmps83
  have hq0 := hide (St.start w)
  go_upto_region 4 with (first
    | ((with_reducible refine allocS (o := ⟨some 2, _, _, _, _, _⟩) ?_ 69 ?_ hq0.out vT0 Try.zrT ?_); rfl; rfl; intro w1 b2 hS; have hq1 : Hid (St w w1 [⟨b2, 69, vT0⟩]) := hide hS; clear hS)
    | (go_at_call 60; refine (Hof3.out w1).mono ?_; rintro e w2 ⟨A2, c2, rfl, hc2, hr2, hb2⟩; replace hc2 := hide hc2; replace hr2 := hide hr2; replace hb2 := hide hb2; have hq2 := hide (hq1.out.next hb2.out))
    | ((with_reducible refine allocSN (o := ⟨some 4, _, _, _, _, _⟩) ?_ 32 ?_ hq2.out [.slice none 0 0, .int .i64 0] Try.zrF ?_); rfl; rfl; intro w3 b4 hS hlo4 hbl4; have hq3 : Hid (St w w3 [⟨b2, 69, vT0⟩, ⟨b4, 32, [.slice none 0 0, .int .i64 0]⟩]) := hide hS; clear hS)
    | ((with_reducible refine storeWS (n := 2) (o := ⟨none, _, _, _, _, _⟩) ?_ 32 (.tmp 4) (.tmp 10) ?_ hq3.out 1 (c := ⟨b4, 32, [.slice none 0 0, .int .i64 0]⟩) ?_ ?_ (vF A2 P3 c2 32) ?_ ?_ ?_ ?_ Try.szF ?_); rfl; rfl; rfl; rfl; rfl; rfl; rfl; rfl; intro w4 hS hO; have hq4 : Hid (St w w4 [⟨b2, 69, vT0⟩, ⟨b4, 32, vF A2 P3 c2 32⟩]) := hide hS; have hO4 := hO; clear hS hO))
  clear Hof3
  go_upto_region 5 with (first
    | (go_at_call 60; refine (Hof.out w4).mono ?_; rintro e w5 ⟨A5, c5, rfl, hc5, hr5, hb5⟩; replace hc5 := hide hc5; replace hr5 := hide hr5; replace hb5 := hide hb5; have hq5 := hide (hq4.out.next hb5.out))
    | ((with_reducible refine allocSN (o := ⟨some 6, _, _, _, _, _⟩) ?_ 32 ?_ hq5.out [.slice none 0 0, .int .i64 0] Try.zrF ?_); rfl; rfl; intro w6 b6 hS hlo6 hbl6; have hq6 : Hid (St w w6 [⟨b2, 69, vT0⟩, ⟨b4, 32, vF A2 P3 c2 32⟩, ⟨b6, 32, [.slice none 0 0, .int .i64 0]⟩]) := hide hS; clear hS)
    | ((with_reducible refine storeWS (n := 2) (o := ⟨none, _, _, _, _, _⟩) ?_ 32 (.tmp 6) (.tmp 19) ?_ hq6.out 2 (c := ⟨b6, 32, [.slice none 0 0, .int .i64 0]⟩) ?_ ?_ (vF A5 P c5 48) ?_ ?_ ?_ ?_ Try.szF ?_); rfl; rfl; rfl; rfl; rfl; rfl; rfl; rfl; intro w7 hS hO; have hq7 : Hid (St w w7 [⟨b2, 69, vT0⟩, ⟨b4, 32, vF A2 P3 c2 32⟩, ⟨b6, 32, vF A5 P c5 48⟩]) := hide hS; have hO7 := hO; clear hS hO))
  have Hne := hide (show b2 ≠ b4 ∧ b2 ≠ b6 from ⟨hq7.out.ne 0 1 _ _ rfl rfl (by decide), hq7.out.ne 0 2 _ _ rfl rfl (by decide)⟩)
  have hR7 := hide ((((hr5.out.toB).next hbl6).only hO7.out hlo6).rd)
  have hv2 := hide (hq7.out.vb 0 _ rfl)
  clear hq0 hq1 hq2 hq3 hq4 hq5 hq6
  refine region_do 6 26 [fun v _ => v = .agg (vF A5 P c5 48).toArray, fun v w => SLN b2 1 v w, fun v w => TLN A5 P c5 48 b2 1 v w, fun v _ => v = .int .i64 (c : Int), fun v _ => v = .bool f, fun _ w => VTN A5 P c5 48 b2 1 w]
    [(6, .pointer (some ⟨b6, 0, none⟩)), (0, .int .i64 (c : Int)), (2, .pointer (some ⟨b2, 0, none⟩))] (fun w' => VB w' b6 32 (vF A5 P c5 48) ∧ b2 < w'.heap.size) (fun w' => VB w' b2 69 vT0) 5 (some b2) (by kernel_rfl) (by kernel_rfl) rfl rfl
    (.cons (Fact.eq _) rfl (.cons (fun v w w' h hb => h.next hb) rfl (.cons (fun v w w' h hb => h.next hb) rfl (.cons (Fact.eq _) rfl (.cons (Fact.eq _) rfl (.store (fun w w' h hb => h.next hb) rfl (.nil _))))))) (fun w' h => ⟨h.vb (hq7.out.vb 2 _ rfl) (fun e => Hne.out.2 e.symm), Nat.lt_of_lt_of_le (show b2 < w7.heap.size from hv2.out.lt) h.size⟩) (fun w' h => hv2.out.next h) (by kernel_rfl) (by exact ⟨rfl, rfl, rfl, trivial⟩) (.cons ?_ (.cons ?_ (.cons ?_ (.cons ?_ (.cons ?_ (.cons ?_ .nil)))))) ?_
  · refine Obl.plain rfl _ rfl rfl [] (by kernel_rfl) fun a W hF hC hD K hK => ?_
    obtain ⟨c1, c2⟩ := hC
    have e6 : a.tmps.getD 6 undef = .pointer (some ⟨b6, 0, none⟩) := hF.1
    clear hF hD
    exact wpLd 32 (.tmp 6) rfl c1 0 e6 (vF A5 P c5 48) (part_all _ rfl) rfl Try.underlying32 rfl Try.szF (hK _ _ rfl (Below.refl _ _))
  · refine Obl.plain rfl _ rfl rfl [] (by kernel_rfl) fun a W hF hC hD K hK => ?_
    obtain ⟨c1, c2⟩ := hC
    clear hF hD
    refine wp_callC #[.int .u64 1] #[.int .u64 1] (by kernel_rfl) rfl (Hnof.out W) (fun e W' ⟨b', off', c', he, hlo, hc', hr', hb'⟩ => ⟨_, he, hK _ _ ⟨b', off', c', rfl, ?_, hc', hr'⟩ hb'⟩)
    exact fun e => absurd c2 (by omega)
  · refine Obl.plain rfl _ rfl rfl [0, 1] (by kernel_rfl) fun a W hF hC hD K hK => ?_
    obtain ⟨c1, c2⟩ := hC
    have e21 : a.tmps.getD 21 undef = .agg (vF A5 P c5 48).toArray := hD.1
    have e22 : (fun (v : Value) (w : World) => SLN b2 1 v w) (a.tmps.getD 22 undef) W := hD.2.1
    clear hF hD
    obtain ⟨b', off', c', h22, h1, h2, h3⟩ := e22
    exact wp_buildV (v := .agg (vT A5 P c5 48 (some ⟨b', off', none⟩) 1 c').toArray) rfl (by simp only [List.map_toArray, List.map_cons, List.map_nil]; rw [show a.eval (.tmp 21) = _ from e21, show a.eval (.tmp 22) = _ from h22]; exact Try.bldT7 _ _ _ _ _ _ _ _) (hK _ _ ⟨b', off', c', rfl, h1, h2, h3⟩ (Below.refl _ _))
  · refine Obl.plain rfl _ rfl rfl [] (by kernel_rfl) fun a W hF hC hD K hK => ?_
    have e0 : a.tmps.getD 0 undef = .int .i64 (c : Int) := hF.2.1
    clear hF hD hC
    go_simp
    exact hK _ _ rfl (Below.refl _ _)
  · refine Obl.plain rfl _ rfl rfl [3] (by kernel_rfl) fun a W hF hC hD K hK => ?_
    have e24 : a.tmps.getD 24 undef = .int .i64 (c : Int) := hD.1
    clear hF hD hC
    go_simp; exact hK _ _ rfl (Below.refl _ _)
  · refine Obl.write rfl rfl _ rfl rfl [2, 1, 0, 1, 2] (by kernel_rfl) fun a W hF hC hC0 hD K hK => ?_
    obtain ⟨c1, c2⟩ := hC
    have e2 : a.tmps.getD 2 undef = .pointer (some ⟨b2, 0, none⟩) := hF.2.2.1
    have e23 : (fun (v : Value) (w : World) => TLN A5 P c5 48 b2 1 v w) (a.tmps.getD 23 undef) W := hD.1
    clear hF hD
    obtain ⟨b', off', c', h23, h1, h2, h3⟩ := e23
    exact wpStW 69 (.tmp 2) (.tmp 23) rfl e2 (vT A5 P c5 48 (some ⟨b', off', none⟩) 1 c') h23 hC0 Try.szT rfl rfl fun W' hv ho => hK _ _ ⟨b', off', c', hv, h1, h2, h3.only ho h1⟩ ho
  rintro w8 hB hC _ rfl v22 g22 v23 g23 _ rfl _ rfl _ gw
  change Only _ _ _ at hB
  change wpList _ _ _ _ _ _
  simp only [List.drop_succ_cons, List.drop_zero, Act.put, List.setIfInBounds_toArray, List.set_cons_zero, List.set_cons_succ]
  obtain ⟨b', off', c', hv, hne, hc', hr'⟩ := gw
  have hB' := hide hB
  have hv := hide hv
  go_wp2_with fail
  exact retRT rfl rfl rfl hv.out rfl rfl ⟨A5, c5, _, c', rfl, hc5.out, hR7.out.apart hv2.out noU32T hB'.out, hc', hr', Only.below hq7.out.bl hB'.out (hq7.out.lo 0 _ rfl)⟩


theorem rof7_c {c : Int} (w : World) (h : isCurve c) : Calls Try.prog 83 #[.int .i64 c] w (RetRT w (kP (cK c)) (ksz (cK c)) (cN c) true) := by
  rcases h with rfl | rfl
  · exact rof7_2g w rof_3
  · exact rof7_xg w true (by decide) (by decide) rof_3 rof_5
theorem rof7_none {c : Int} (w : World) (h : ¬ isCurve c) : Calls Try.prog 83 #[.int .i64 c] w (RetRT w (kP 5) 48 1 false) :=
  rof7_xg w false (fun e => h (Or.inl e)) (by rw [beq_eq_false_iff_ne]; exact fun e => h (Or.inr e)) rof_3 rof_5
end Go.Proofs.Ytincemkjdgbnnaa
