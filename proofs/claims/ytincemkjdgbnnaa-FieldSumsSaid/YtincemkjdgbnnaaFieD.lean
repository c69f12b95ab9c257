/- Walks: package field: Exp. -/
import Derived.Test.YtincemkjdgbnnaaFieC
set_option linter.unusedVariables false
set_option linter.unusedSimpArgs false
namespace Go.Proofs.Ytincemkjdgbnnaa
open Go.RowKit Lm

theorem digs_be_short {l : List Nat} (hok : Ok 256 l) (h : l.length ≤ 1073741824) : (digs B64 (be l)).length ≤ 1073741824 := by
  have h1 : be l < 256 ^ l.length := by
    have := val_lt (B := 256) (l := l.reverse) (fun x hx => hok x (List.mem_reverse.1 hx))
    rwa [List.length_reverse] at this
  have h2 : (256 : Nat) ^ l.length ≤ B64 ^ l.length := Nat.pow_le_pow_left (by decide) _
  have := digs_length_le B64_ge (Nat.lt_of_lt_of_le h1 h2)
  omega

set_option maxRecDepth 100000 in
set_option maxHeartbeats 1600000 in
theorem fexp_c (b bm P n size x : Nat) (A : Option Addr) (c : Nat) (l : List Nat) (w : World) (hF : FQ w b bm P n size) (hx : x < B64 ^ 6) (hr : Rd w .u8 A l) (hc : l.length ≤ c) (hlim : l.length ≤ 1073741824) (hok : Ok 256 l) :
    Calls Try.prog 17 #[.pointer (some ⟨b, 0, none⟩), vE x, .slice A l.length c] w fun e w' => e = .returned (vE (x ^ be l % P)) ∧ Below w.heap.size w w' := by
  have Hs := hide (digs_be_short hok hlim)
  have Hfrom := hide (fun W h => from_any A c l W h hc (by unfold lim; omega) hok)
  generalize be l = N at *
  go_enter Try.func17, Try.ntmps17
  have hF := hide hF
  have hx := hide hx
  have hr := hide hr
  go_upto_region 1 with (first
    | ((with_reducible refine boxT 24 (o := ⟨some 4, _, _, _, _, _⟩) ?_ (.tmp 1) ?_ (v := x) ?_ ?_); rfl; rfl; rfl; intro w1 b1 hv1 hn1)
    | ((with_reducible refine allocT 24 (o := ⟨some 6, _, _, _, _, _⟩) ?_ ?_ Try.zr24 ?_); rfl; rfl; intro w3 b3 hv3 hn3))
  have HF := hide ((hF.out.next hn1.bl).next hn3.bl)
  have HB := hide (below_next hn1.bl hn3.bl)
  have HR := hide ((hr.out.below hn1.bl).below hn3.bl)
  have Hv1 := hide (hv1.next hn3.bl)
  have Hv3 := hide hv3
  have Hb := hide (Nat.le_trans hn1.bl.size hn3.lo)
  have hP0 := HF.out.pos
  clear hv1 hv3 hn1 hn3 hF hr
  refine region_do 12 19 [fun v _ => v = .pointer (some ⟨b, 0, none⟩), fun v _ => v = .pointer (some ⟨b, 0, none⟩), fun v _ => v = .pointer (some ⟨b, 0, none⟩), fun v _ => v = .pointer (some ⟨b, 0, none⟩), fun v _ => v = .pointer (some ⟨bm, 0, none⟩), fun v _ => v = .pointer (some ⟨b, 0, none⟩), fun v _ => v = vE (x), fun v _ => v = vE (mf P n x), fun v _ => v = .slice A l.length c, fun v w => RetV w .u64 (digs B64 N) v, fun v _ => v = vE (mf P n (x ^ N)), fun v _ => v = vE (x ^ N % P)]
    [(0, .pointer (some ⟨b, 0, none⟩)), (4, .pointer (some ⟨b1, 0, none⟩)), (2, .slice A l.length c)] (fun w' => FQ w' b bm P n size ∧ VB w' b1 24 (ve x) ∧ Rd w' .u8 A l) (fun w' => True) 999 none (by kernel_rfl) (by kernel_rfl) rfl rfl
    (.cons (Fact.eq _) rfl (.cons (Fact.eq _) rfl (.cons (Fact.eq _) rfl (.cons (Fact.eq _) rfl (.cons (Fact.eq _) rfl (.cons (Fact.eq _) rfl (.cons (Fact.eq _) rfl (.cons (Fact.eq _) rfl (.cons (Fact.eq _) rfl (.cons (fun v w w' h hb => h.next hb) rfl (.cons (Fact.eq _) rfl (.cons (Fact.eq _) rfl (.nil _))))))))))))) (fun w' h => ⟨HF.out.next h, Hv1.out.next h, HR.out.below h⟩) (fun w' h => trivial) (by kernel_rfl) ⟨rfl, rfl, rfl, trivial⟩ (.cons ?_ (.cons ?_ (.cons ?_ (.cons ?_ (.cons ?_ (.cons ?_ (.cons ?_ (.cons ?_ (.cons ?_ (.cons ?_ (.cons ?_ (.cons ?_ .nil)))))))))))) ?_
  · refine Obl.plain rfl _ rfl rfl [] (by kernel_rfl) fun a W hF hC hD K hK => ?_
    have e0 : a.tmps.getD 0 undef = .pointer (some ⟨b, 0, none⟩) := hF.1
    clear hF hD hC
    go_simp
    exact hK _ _ rfl (Below.refl _ _)
  · refine Obl.plain rfl _ rfl rfl [] (by kernel_rfl) fun a W hF hC hD K hK => ?_
    have e0 : a.tmps.getD 0 undef = .pointer (some ⟨b, 0, none⟩) := hF.1
    clear hF hD hC
    go_simp
    exact hK _ _ rfl (Below.refl _ _)
  · refine Obl.plain rfl _ rfl rfl [1] (by kernel_rfl) fun a W hF hC hD K hK => ?_
    have e8 : a.tmps.getD 8 undef = .pointer (some ⟨b, 0, none⟩) := hD.1
    clear hF hD hC
    go_simp
    exact hK _ _ rfl (Below.refl _ _)
  · refine Obl.plain rfl _ rfl rfl [2] (by kernel_rfl) fun a W hF hC hD K hK => ?_
    have e9 : a.tmps.getD 9 undef = .pointer (some ⟨b, 0, none⟩) := hD.1
    clear hF hD hC
    go_simp
    exact hK _ _ rfl (Below.refl _ _)
  · refine Obl.plain rfl _ rfl rfl [3] (by kernel_rfl) fun a W hF hC hD K hK => ?_
    obtain ⟨c1, c2, c3⟩ := hC
    have e10 : a.tmps.getD 10 undef = .pointer (some ⟨b, 0, none⟩) := hD.1
    clear hF hD
    have f0 := c1.cellM
    go_simp
    exact hK _ _ rfl (Below.refl _ _)
  · refine Obl.plain rfl _ rfl rfl [] (by kernel_rfl) fun a W hF hC hD K hK => ?_
    have e0 : a.tmps.getD 0 undef = .pointer (some ⟨b, 0, none⟩) := hF.1
    clear hF hD hC
    go_simp
    exact hK _ _ rfl (Below.refl _ _)
  · refine Obl.plain rfl _ rfl rfl [] (by kernel_rfl) fun a W hF hC hD K hK => ?_
    obtain ⟨c1, c2, c3⟩ := hC
    have e4 : a.tmps.getD 4 undef = .pointer (some ⟨b1, 0, none⟩) := hF.2.1
    clear hF hD
    exact wpE _ (.tmp 4) rfl c2 e4 Try.underlying24 rfl Try.sz24 (hK _ _ rfl (Below.refl _ _))
  · refine Obl.plain rfl _ rfl rfl [5, 6] (by kernel_rfl) fun a W hF hC hD K hK => ?_
    obtain ⟨c1, c2, c3⟩ := hC
    have e12 : a.tmps.getD 12 undef = .pointer (some ⟨b, 0, none⟩) := hD.1
    have e13 : a.tmps.getD 13 undef = vE (x) := hD.2.1
    clear hF hD
    go_simp
    refine (fin_c b bm P n size x W c1 hx.out).mono ?_
    rintro e W' ⟨rfl, hb⟩
    exact hK _ _ rfl hb
  · refine Obl.plain rfl _ rfl rfl [] (by kernel_rfl) fun a W hF hC hD K hK => ?_
    have e2 : a.tmps.getD 2 undef = .slice A l.length c := hF.2.2.1
    clear hF hD hC
    go_simp
    exact hK _ _ rfl (Below.refl _ _)
  · refine Obl.plain rfl _ rfl rfl [8, 7] (by kernel_rfl) fun a W hF hC hD K hK => ?_
    obtain ⟨c1, c2, c3⟩ := hC
    have e15 : a.tmps.getD 15 undef = .slice A l.length c := hD.1
    clear hF hD
    go_simp
    refine (Hfrom.out W c3).mono ?_
    rintro e W' ⟨A2, c2', rfl, hc2, hr2, hb⟩
    exact hK _ _ ⟨A2, c2', rfl, hc2, hr2⟩ hb
  · refine Obl.plain rfl _ rfl rfl [4, 7, 9, 9] (by kernel_rfl) fun a W hF hC hD K hK => ?_
    obtain ⟨c1, c2, c3⟩ := hC
    have e11 : a.tmps.getD 11 undef = .pointer (some ⟨bm, 0, none⟩) := hD.1
    have e14 : a.tmps.getD 14 undef = vE (mf P n x) := hD.2.1
    have e16 : (fun (v : Value) (w : World) => RetV w .u64 (digs B64 N) v) (a.tmps.getD 16 undef) W := hD.2.2.1
    clear hF hD
    obtain ⟨A2, c2', h2, hc2, hr2⟩ := e16
    have h := mexp_c bm P n x A2 c2' (digs B64 N) W c1.fb c1.inv hr2 hc2 Hs.out (digs_ok B64_ge _)
    rw [val_digs B64_ge] at h
    have h := hide h
    go_simp
    refine h.out.mono ?_
    rintro e W' ⟨rfl, hb⟩
    exact hK _ _ rfl hb
  · refine Obl.plain rfl _ rfl rfl [0, 10, 10] (by kernel_rfl) fun a W hF hC hD K hK => ?_
    obtain ⟨c1, c2, c3⟩ := hC
    have e7 : a.tmps.getD 7 undef = .pointer (some ⟨b, 0, none⟩) := hD.1
    have e17 : a.tmps.getD 17 undef = vE (mf P n (x ^ N)) := hD.2.1
    clear hF hD
    go_simp
    refine (fout_c b bm P n size (x ^ N) W c1).mono ?_
    rintro e W' ⟨rfl, hb⟩
    exact hK _ _ rfl hb
  rintro w4 hB4 hC4 _ rfl _ rfl _ rfl _ rfl _ rfl _ rfl _ rfl _ rfl _ rfl v16 g16 _ rfl _ rfl
  change Below _ _ _ at hB4
  change wpList _ _ _ _ _ _
  simp only [List.drop_succ_cons, List.drop_zero, Act.put, List.setIfInBounds_toArray, List.set_cons_zero, List.set_cons_succ]
  have hb4 := hide hB4
  clear hB4 hC4
  go_wp2_with ((with_reducible refine storeT 24 (v' := x ^ N % P) (o := ⟨none, _, _, _, _, _⟩) ?_ (.tmp 6) (.tmp 18) ?_ ?_ ?_ (Hv3.out.next hb4.out) Try.sz24 ?_); rfl; rfl; rfl; rfl; intro w6 hv6 ho6)
  exact retT 24 rfl rfl hv6 Try.underlying24 rfl Try.sz24 rfl ⟨rfl, Only.below (below_next HB.out hb4.out) ho6.out Hb.out⟩
end Go.Proofs.Ytincemkjdgbnnaa
