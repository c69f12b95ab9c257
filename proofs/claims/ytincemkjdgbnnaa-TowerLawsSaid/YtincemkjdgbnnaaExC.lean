/- Walks: package ext: Exp2, Exp12. -/
import Derived.Test.YtincemkjdgbnnaaTwD
set_option linter.unusedVariables false
set_option linter.unusedSimpArgs false
namespace Go.Proofs.Ytincemkjdgbnnaa
open Go.RowKit Lm

theorem xexp2_round {N : Int} (X : Z2) (e i : Nat) : Z2.pow X (e / 2 ^ i) = if e / 2 ^ i % 2 = 1 then Z2.mul (Z2.mul (Z2.pow X (e / 2 ^ (i + 1))) (Z2.pow X (e / 2 ^ (i + 1)))) X else Z2.mul (Z2.pow X (e / 2 ^ (i + 1))) (Z2.pow X (e / 2 ^ (i + 1))) := by
  rw [← Z2.pow_add', show e / 2 ^ (i + 1) = e / 2 ^ i / 2 by rw [Nat.pow_succ, Nat.div_div_eq_div_mul]]
  generalize e / 2 ^ i = q
  split
  · rw [show Z2.pow X q = Z2.pow X (q / 2 + q / 2 + 1) by congr 1; omega]; rfl
  · congr 1; omega

set_option maxRecDepth 100000 in
set_option maxHeartbeats 3200000 in
theorem xexp2 {bt bm P n : Nat} {N : Int} {fr : List Value} {w : World} (X : Z2) (A : Option Addr) (c : Nat) (l : List Nat) (hT : TB w bt bm P n N fr) (hI : InvOk P) (hr : Rd w .u64 A l) (hc : l.length ≤ c) (hlim : l.length ≤ 1073741824) (hok : Ok B64 l) :
    Calls Try.prog 145 #[.pointer (some ⟨bt, 0, none⟩), .agg (m2 P n X).toArray, .slice A l.length c] w fun e w' => e = .returned (.agg (m2 P n (Z2.pow X (val B64 l))).toArray) ∧ Below w.heap.size w w' := by
  have hbl : blen (val B64 l) ≤ 64 * l.length := blen_le_of_lt (by
    have := val_lt hok
    rwa [show B64 = 2 ^ 64 by decide, ← Nat.pow_mul] at this)
  have Hbl := hide (show blen (val B64 l) ≤ 68719476736 by omega)
  have Hfull := hide (lt_blen (val B64 l))
  have Hbits := hide (fun W h => bits_any A c l W h hc (by unfold lim; omega) hok)
  have Hbit := hide (fun W i h hi => bit_any A c l i W h hc (by unfold lim; omega) hok hi)
  obtain ⟨e, he⟩ : ∃ e, e = val B64 l := ⟨_, rfl⟩
  rw [← he] at Hbl Hfull Hbits Hbit ⊢
  have Hr := hide hr
  have hT := hide hT
  have hI := hide hI
  have hq0 := hide (St.start w)
  clear hr hbl he hok
  have iw := wrap_in ((blen e : Int) - 1) (by omega) (by have := Hbl.out; omega)
  go_enter Try.func145, Try.ntmps145
  go_wp2_with (first
    | ((with_reducible refine boxS (o := ⟨some 4, _, _, _, _, _⟩) ?_ 123 (.tmp 1) ?_ hq0.out (m2 P n X) ?_ ?_); rfl; rfl; rfl; intro wq1 b4 hS; have hq1 : Hid (St w wq1 [⟨b4, 123, m2 P n X⟩]) := hide hS; clear hS)
    | ((with_reducible refine allocS (o := ⟨some 6, _, _, _, _, _⟩) ?_ 123 ?_ hq1.out (z0 12) Try.zrE2 ?_); rfl; rfl; intro wq2 b6 hS; have hq2 : Hid (St w wq2 [⟨b4, 123, m2 P n X⟩, ⟨b6, 123, z0 12⟩]) := hide hS; clear hS)
    | (go_at_call 136; refine (xone2 (hT.out.next hq2.out.bl) hI.out).mono ?_; rintro e w3 ⟨rfl, hb3⟩; have hq3 := hide (hq2.out.next hb3); clear hb3)
    | ((with_reducible refine allocS (o := ⟨some 7, _, _, _, _, _⟩) ?_ 123 ?_ hq3.out (z0 12) Try.zrE2 ?_); rfl; rfl; intro w4 b7 hS; have hq4 : Hid (St w w4 [⟨b4, 123, m2 P n X⟩, ⟨b6, 123, z0 12⟩, ⟨b7, 123, z0 12⟩]) := hide hS; clear hS)
    | ((with_reducible refine storeWS (n := 12) (o := ⟨none, _, _, _, _, _⟩) ?_ 123 (.tmp 7) (.tmp 10) ?_ hq4.out 2 (c := ⟨b7, 123, z0 12⟩) ?_ ?_ (m2 P n Z2.one) ?_ ?_ ?_ ?_ Try.szE2 ?_); rfl; rfl; rfl; rfl; rfl; rfl; rfl; rfl; intro w5 hS hO; clear hO; have hq5 : Hid (St w w5 [⟨b4, 123, m2 P n X⟩, ⟨b6, 123, z0 12⟩, ⟨b7, 123, m2 P n Z2.one⟩]) := hide hS; clear hS)
    | (go_at_call 110; refine (Hbits.out w5 (Hr.out.below hq5.out.bl)).mono ?_; rintro e5 w6 ⟨rfl, hb6⟩; have hq6 := hide (hq5.out.next hb6); clear hb6))
  clear hq0 hq1 hq2 hq3 hq4 hq5 Hbits iw
  go_loopg [8] (blen e) (fun g s8 wr => g ≤ blen e ∧ s8 = .int .i64 ((g : Int) - 1) ∧ St w wr [⟨b4, 123, m2 P n X⟩, ⟨b6, 123, z0 12⟩, ⟨b7, 123, m2 P n (Z2.pow X (e / 2 ^ g))⟩])
  case atStart => exact ⟨Nat.le_refl _, rfl, by rw [Nat.div_eq_of_lt Hfull.out]; exact hq6.out⟩
  case round =>
    obtain ⟨hg, rfl, hSr⟩ := hrel
    obtain ⟨wx, hwx⟩ : ∃ W, W = wr := ⟨_, rfl⟩
    subst hwx
    have hSr := hide hSr
    clear hq6
    rcases Nat.eq_zero_or_pos gk with h0 | h0
    · subst h0
      rw [Nat.pow_zero, Nat.div_one] at hSr
      go_wp2_with (first
        | ((with_reducible refine loadS (n := 12) (o := ⟨some 30, _, _, _, _, _⟩) ?_ 123 (.tmp 7) ?_ hSr.out 2 (c := ⟨b7, 123, m2 P n (Z2.pow X e)⟩) ?_ 0 ?_ (m2 P n (Z2.pow X e)) (part_all _ (m2_len P n _)) (m2_len P n _) Try.underlying123 rfl Try.szE2 ?_); rfl; rfl; rfl; rfl)
        | ((with_reducible refine storeWS (n := 12) (o := ⟨none, _, _, _, _, _⟩) ?_ 123 (.tmp 6) (.tmp 30) ?_ hSr.out 1 (c := ⟨b6, 123, z0 12⟩) ?_ ?_ (m2 P n (Z2.pow X e)) ?_ ?_ ?_ ?_ Try.szE2 ?_); rfl; rfl; rfl; rfl; rfl; rfl; rfl; rfl; intro wz hS hO; clear hO; have hZ : Hid (St w wz [⟨b4, 123, m2 P n X⟩, ⟨b6, 123, m2 P n (Z2.pow X e)⟩, ⟨b7, 123, m2 P n (Z2.pow X e)⟩]) := hide hS; clear hS))
      exact retS rfl hZ.out 1 (c := ⟨b6, 123, m2 P n (Z2.pow X e)⟩) rfl rfl Try.underlying123 rfl Try.szE2 rfl ⟨rfl, hZ.out.bl⟩
    · obtain ⟨i, rfl⟩ : ∃ i, gk = i + 1 := ⟨gk - 1, by omega⟩
      rw [show ((i + 1 : Nat) : Int) - 1 = (i : Int) by omega]
      have hrd := hide (xexp2_round (N := N) X e i)
      generalize Z2.pow X (e / 2 ^ (i + 1)) = Y at *
      have hTr := hide (hT.out.next hSr.out.bl)
      have iw := wrap_in ((i : Int) - 1) (by omega) (by have := Hbl.out; omega)
      have hge : (0 : Int) ≤ (i : Int) := by omega
      go_upto_region 6 with (first
        | ((with_reducible refine loadS (n := 12) (o := ⟨some 19, _, _, _, _, _⟩) ?_ 123 (.tmp 7) ?_ hSr.out 2 (c := ⟨b7, 123, m2 P n Y⟩) ?_ 0 ?_ (m2 P n Y) (part_all _ (m2_len P n _)) (m2_len P n _) Try.underlying123 rfl Try.szE2 ?_); rfl; rfl; rfl; rfl)
        | ((with_reducible refine loadS (n := 12) (o := ⟨some 20, _, _, _, _, _⟩) ?_ 123 (.tmp 7) ?_ hSr.out 2 (c := ⟨b7, 123, m2 P n Y⟩) ?_ 0 ?_ (m2 P n Y) (part_all _ (m2_len P n _)) (m2_len P n _) Try.underlying123 rfl Try.szE2 ?_); rfl; rfl; rfl; rfl)
        | (go_at_call 94; refine (xmul2 Y Y hTr.out hI.out).mono ?_; rintro e w7 ⟨rfl, hb7⟩; have hq7 := hide (hSr.out.next hb7); clear hb7)
        | ((with_reducible refine storeWS (n := 12) (o := ⟨none, _, _, _, _, _⟩) ?_ 123 (.tmp 7) (.tmp 21) ?_ hq7.out 2 (c := ⟨b7, 123, m2 P n Y⟩) ?_ ?_ (m2 P n (Z2.mul Y Y)) ?_ ?_ ?_ ?_ Try.szE2 ?_); rfl; rfl; rfl; rfl; rfl; rfl; rfl; rfl; intro w8 hS hO; clear hO; have hq8 : Hid (St w w8 [⟨b4, 123, m2 P n X⟩, ⟨b6, 123, z0 12⟩, ⟨b7, 123, m2 P n (Z2.mul Y Y)⟩]) := hide hS; clear hS))
      have hbit := Hbit.out w8 i (Hr.out.below hq8.out.bl) (by have := Hbl.out; unfold lim; omega)
      have hT8 := hide (hT.out.next hq8.out.bl)
      clear hSr hq7 Hbit hTr
      rcases Nat.mod_two_eq_zero_or_one (e / 2 ^ i) with hm | hm
      · rw [hm] at hbit
        rw [if_neg (by rw [hm]; decide)] at hrd
        replace hm := hide hm
        have hbit := hide hbit
        go_wp2_with (go_at_call 111; refine hbit.out.mono ?_; rintro e9 w9 ⟨rfl, hb9⟩; have hq9 := hide (hq8.out.next hb9); clear hb9)
        go_roundg i
        case measure => omega
        case rel => exact ⟨by omega, by simp, by rw [hrd.out]; exact hq9.out⟩
      · rw [hm] at hbit
        rw [if_pos hm] at hrd
        replace hm := hide hm
        have hbit := hide hbit
        go_wp2_with (first
          | (go_at_call 111; refine hbit.out.mono ?_; rintro e9 w9 ⟨rfl, hb9⟩; have hq9 := hide (hq8.out.next hb9); clear hb9)
          | ((with_reducible refine loadS (n := 12) (o := ⟨some 27, _, _, _, _, _⟩) ?_ 123 (.tmp 7) ?_ hq9.out 2 (c := ⟨b7, 123, m2 P n (Z2.mul Y Y)⟩) ?_ 0 ?_ (m2 P n (Z2.mul Y Y)) (part_all _ (m2_len P n _)) (m2_len P n _) Try.underlying123 rfl Try.szE2 ?_); rfl; rfl; rfl; rfl)
          | ((with_reducible refine loadS (n := 12) (o := ⟨some 28, _, _, _, _, _⟩) ?_ 123 (.tmp 4) ?_ hq9.out 0 (c := ⟨b4, 123, m2 P n X⟩) ?_ 0 ?_ (m2 P n X) (part_all _ (m2_len P n _)) (m2_len P n _) Try.underlying123 rfl Try.szE2 ?_); rfl; rfl; rfl; rfl)
          | (go_at_call 94; refine (xmul2 (Z2.mul Y Y) X (hT.out.next hq9.out.bl) hI.out).mono ?_; rintro e wa ⟨rfl, hba⟩; have hqa := hide (hq9.out.next hba); clear hba)
          | ((with_reducible refine storeWS (n := 12) (o := ⟨none, _, _, _, _, _⟩) ?_ 123 (.tmp 7) (.tmp 29) ?_ hqa.out 2 (c := ⟨b7, 123, m2 P n (Z2.mul Y Y)⟩) ?_ ?_ (m2 P n (Z2.mul (Z2.mul Y Y) X)) ?_ ?_ ?_ ?_ Try.szE2 ?_); rfl; rfl; rfl; rfl; rfl; rfl; rfl; rfl; intro wb hS hO; clear hO; have hqb : Hid (St w wb [⟨b4, 123, m2 P n X⟩, ⟨b6, 123, z0 12⟩, ⟨b7, 123, m2 P n (Z2.mul (Z2.mul Y Y) X)⟩]) := hide hS; clear hS))
        go_roundg i
        case measure => omega
        case rel => exact ⟨by omega, by simp, by rw [hrd.out]; exact hqb.out⟩

theorem xexp12_round {N : Int} (X : Z12) (e i : Nat) : Z12.pow N X (e / 2 ^ i) = if e / 2 ^ i % 2 = 1 then Z12.mul N (Z12.mul N (Z12.pow N X (e / 2 ^ (i + 1))) (Z12.pow N X (e / 2 ^ (i + 1)))) X else Z12.mul N (Z12.pow N X (e / 2 ^ (i + 1))) (Z12.pow N X (e / 2 ^ (i + 1))) := by
  rw [← Z12.pow_add', show e / 2 ^ (i + 1) = e / 2 ^ i / 2 by rw [Nat.pow_succ, Nat.div_div_eq_div_mul]]
  generalize e / 2 ^ i = q
  split
  · rw [show Z12.pow N X q = Z12.pow N X (q / 2 + q / 2 + 1) by congr 1; omega]; rfl
  · congr 1; omega

set_option maxRecDepth 100000 in
set_option maxHeartbeats 3200000 in
theorem xexp12 {bt bm P n : Nat} {N : Int} {fr : List Value} {w : World} (X : Z12) (A : Option Addr) (c : Nat) (l : List Nat) (hT : TB w bt bm P n N fr) (hI : InvOk P) (hr : Rd w .u64 A l) (hc : l.length ≤ c) (hlim : l.length ≤ 1073741824) (hok : Ok B64 l) :
    Calls Try.prog 100 #[.pointer (some ⟨bt, 0, none⟩), .agg (m12 P n X).toArray, .slice A l.length c] w fun e w' => e = .returned (.agg (m12 P n (Z12.pow N X (val B64 l))).toArray) ∧ Below w.heap.size w w' := by
  have hbl : blen (val B64 l) ≤ 64 * l.length := blen_le_of_lt (by
    have := val_lt hok
    rwa [show B64 = 2 ^ 64 by decide, ← Nat.pow_mul] at this)
  have Hbl := hide (show blen (val B64 l) ≤ 68719476736 by omega)
  have Hfull := hide (lt_blen (val B64 l))
  have Hbits := hide (fun W h => bits_any A c l W h hc (by unfold lim; omega) hok)
  have Hbit := hide (fun W i h hi => bit_any A c l i W h hc (by unfold lim; omega) hok hi)
  obtain ⟨e, he⟩ : ∃ e, e = val B64 l := ⟨_, rfl⟩
  rw [← he] at Hbl Hfull Hbits Hbit ⊢
  have Hr := hide hr
  have hT := hide hT
  have hI := hide hI
  have hq0 := hide (St.start w)
  clear hr hbl he hok
  have iw := wrap_in ((blen e : Int) - 1) (by omega) (by have := Hbl.out; omega)
  go_enter Try.func100, Try.ntmps100
  go_wp2_with (first
    | ((with_reducible refine boxS (o := ⟨some 4, _, _, _, _, _⟩) ?_ 127 (.tmp 1) ?_ hq0.out (m12 P n X) ?_ ?_); rfl; rfl; rfl; intro wq1 b4 hS; have hq1 : Hid (St w wq1 [⟨b4, 127, m12 P n X⟩]) := hide hS; clear hS)
    | ((with_reducible refine allocS (o := ⟨some 6, _, _, _, _, _⟩) ?_ 127 ?_ hq1.out (z0 72) Try.zrE12 ?_); rfl; rfl; intro wq2 b6 hS; have hq2 : Hid (St w wq2 [⟨b4, 127, m12 P n X⟩, ⟨b6, 127, z0 72⟩]) := hide hS; clear hS)
    | (go_at_call 104; refine (xone12 (hT.out.next hq2.out.bl) hI.out).mono ?_; rintro e w3 ⟨rfl, hb3⟩; have hq3 := hide (hq2.out.next hb3); clear hb3)
    | ((with_reducible refine allocS (o := ⟨some 7, _, _, _, _, _⟩) ?_ 127 ?_ hq3.out (z0 72) Try.zrE12 ?_); rfl; rfl; intro w4 b7 hS; have hq4 : Hid (St w w4 [⟨b4, 127, m12 P n X⟩, ⟨b6, 127, z0 72⟩, ⟨b7, 127, z0 72⟩]) := hide hS; clear hS)
    | ((with_reducible refine storeWS (n := 72) (o := ⟨none, _, _, _, _, _⟩) ?_ 127 (.tmp 7) (.tmp 10) ?_ hq4.out 2 (c := ⟨b7, 127, z0 72⟩) ?_ ?_ (m12 P n Z12.one) ?_ ?_ ?_ ?_ Try.szE12 ?_); rfl; rfl; rfl; rfl; rfl; rfl; rfl; rfl; intro w5 hS hO; clear hO; have hq5 : Hid (St w w5 [⟨b4, 127, m12 P n X⟩, ⟨b6, 127, z0 72⟩, ⟨b7, 127, m12 P n Z12.one⟩]) := hide hS; clear hS)
    | (go_at_call 110; refine (Hbits.out w5 (Hr.out.below hq5.out.bl)).mono ?_; rintro e5 w6 ⟨rfl, hb6⟩; have hq6 := hide (hq5.out.next hb6); clear hb6))
  clear hq0 hq1 hq2 hq3 hq4 hq5 Hbits iw
  go_loopg [8] (blen e) (fun g s8 wr => g ≤ blen e ∧ s8 = .int .i64 ((g : Int) - 1) ∧ St w wr [⟨b4, 127, m12 P n X⟩, ⟨b6, 127, z0 72⟩, ⟨b7, 127, m12 P n (Z12.pow N X (e / 2 ^ g))⟩])
  case atStart => exact ⟨Nat.le_refl _, rfl, by rw [Nat.div_eq_of_lt Hfull.out]; exact hq6.out⟩
  case round =>
    obtain ⟨hg, rfl, hSr⟩ := hrel
    obtain ⟨wx, hwx⟩ : ∃ W, W = wr := ⟨_, rfl⟩
    subst hwx
    have hSr := hide hSr
    clear hq6
    rcases Nat.eq_zero_or_pos gk with h0 | h0
    · subst h0
      rw [Nat.pow_zero, Nat.div_one] at hSr
      go_wp2_with (first
        | ((with_reducible refine loadS (n := 72) (o := ⟨some 30, _, _, _, _, _⟩) ?_ 127 (.tmp 7) ?_ hSr.out 2 (c := ⟨b7, 127, m12 P n (Z12.pow N X e)⟩) ?_ 0 ?_ (m12 P n (Z12.pow N X e)) (part_all _ (m12_len P n _)) (m12_len P n _) Try.underlying127 rfl Try.szE12 ?_); rfl; rfl; rfl; rfl)
        | ((with_reducible refine storeWS (n := 72) (o := ⟨none, _, _, _, _, _⟩) ?_ 127 (.tmp 6) (.tmp 30) ?_ hSr.out 1 (c := ⟨b6, 127, z0 72⟩) ?_ ?_ (m12 P n (Z12.pow N X e)) ?_ ?_ ?_ ?_ Try.szE12 ?_); rfl; rfl; rfl; rfl; rfl; rfl; rfl; rfl; intro wz hS hO; clear hO; have hZ : Hid (St w wz [⟨b4, 127, m12 P n X⟩, ⟨b6, 127, m12 P n (Z12.pow N X e)⟩, ⟨b7, 127, m12 P n (Z12.pow N X e)⟩]) := hide hS; clear hS))
      exact retS rfl hZ.out 1 (c := ⟨b6, 127, m12 P n (Z12.pow N X e)⟩) rfl rfl Try.underlying127 rfl Try.szE12 rfl ⟨rfl, hZ.out.bl⟩
    · obtain ⟨i, rfl⟩ : ∃ i, gk = i + 1 := ⟨gk - 1, by omega⟩
      rw [show ((i + 1 : Nat) : Int) - 1 = (i : Int) by omega]
      have hrd := hide (xexp12_round (N := N) X e i)
      generalize Z12.pow N X (e / 2 ^ (i + 1)) = Y at *
      have hTr := hide (hT.out.next hSr.out.bl)
      have iw := wrap_in ((i : Int) - 1) (by omega) (by have := Hbl.out; omega)
      have hge : (0 : Int) ≤ (i : Int) := by omega
      go_upto_region 6 with (first
        | ((with_reducible refine loadS (n := 72) (o := ⟨some 19, _, _, _, _, _⟩) ?_ 127 (.tmp 7) ?_ hSr.out 2 (c := ⟨b7, 127, m12 P n Y⟩) ?_ 0 ?_ (m12 P n Y) (part_all _ (m12_len P n _)) (m12_len P n _) Try.underlying127 rfl Try.szE12 ?_); rfl; rfl; rfl; rfl)
        | ((with_reducible refine loadS (n := 72) (o := ⟨some 20, _, _, _, _, _⟩) ?_ 127 (.tmp 7) ?_ hSr.out 2 (c := ⟨b7, 127, m12 P n Y⟩) ?_ 0 ?_ (m12 P n Y) (part_all _ (m12_len P n _)) (m12_len P n _) Try.underlying127 rfl Try.szE12 ?_); rfl; rfl; rfl; rfl)
        | (go_at_call 86; refine (xmul12 Y Y hTr.out hI.out).mono ?_; rintro e w7 ⟨rfl, hb7⟩; have hq7 := hide (hSr.out.next hb7); clear hb7)
        | ((with_reducible refine storeWS (n := 72) (o := ⟨none, _, _, _, _, _⟩) ?_ 127 (.tmp 7) (.tmp 21) ?_ hq7.out 2 (c := ⟨b7, 127, m12 P n Y⟩) ?_ ?_ (m12 P n (Z12.mul N Y Y)) ?_ ?_ ?_ ?_ Try.szE12 ?_); rfl; rfl; rfl; rfl; rfl; rfl; rfl; rfl; intro w8 hS hO; clear hO; have hq8 : Hid (St w w8 [⟨b4, 127, m12 P n X⟩, ⟨b6, 127, z0 72⟩, ⟨b7, 127, m12 P n (Z12.mul N Y Y)⟩]) := hide hS; clear hS))
      have hbit := Hbit.out w8 i (Hr.out.below hq8.out.bl) (by have := Hbl.out; unfold lim; omega)
      have hT8 := hide (hT.out.next hq8.out.bl)
      clear hSr hq7 Hbit hTr
      rcases Nat.mod_two_eq_zero_or_one (e / 2 ^ i) with hm | hm
      · rw [hm] at hbit
        rw [if_neg (by rw [hm]; decide)] at hrd
        replace hm := hide hm
        have hbit := hide hbit
        go_wp2_with (go_at_call 111; refine hbit.out.mono ?_; rintro e9 w9 ⟨rfl, hb9⟩; have hq9 := hide (hq8.out.next hb9); clear hb9)
        go_roundg i
        case measure => omega
        case rel => exact ⟨by omega, by simp, by rw [hrd.out]; exact hq9.out⟩
      · rw [hm] at hbit
        rw [if_pos hm] at hrd
        replace hm := hide hm
        have hbit := hide hbit
        go_wp2_with (first
          | (go_at_call 111; refine hbit.out.mono ?_; rintro e9 w9 ⟨rfl, hb9⟩; have hq9 := hide (hq8.out.next hb9); clear hb9)
          | ((with_reducible refine loadS (n := 72) (o := ⟨some 27, _, _, _, _, _⟩) ?_ 127 (.tmp 7) ?_ hq9.out 2 (c := ⟨b7, 127, m12 P n (Z12.mul N Y Y)⟩) ?_ 0 ?_ (m12 P n (Z12.mul N Y Y)) (part_all _ (m12_len P n _)) (m12_len P n _) Try.underlying127 rfl Try.szE12 ?_); rfl; rfl; rfl; rfl)
          | ((with_reducible refine loadS (n := 72) (o := ⟨some 28, _, _, _, _, _⟩) ?_ 127 (.tmp 4) ?_ hq9.out 0 (c := ⟨b4, 127, m12 P n X⟩) ?_ 0 ?_ (m12 P n X) (part_all _ (m12_len P n _)) (m12_len P n _) Try.underlying127 rfl Try.szE12 ?_); rfl; rfl; rfl; rfl)
          | (go_at_call 86; refine (xmul12 (Z12.mul N Y Y) X (hT.out.next hq9.out.bl) hI.out).mono ?_; rintro e wa ⟨rfl, hba⟩; have hqa := hide (hq9.out.next hba); clear hba)
          | ((with_reducible refine storeWS (n := 72) (o := ⟨none, _, _, _, _, _⟩) ?_ 127 (.tmp 7) (.tmp 29) ?_ hqa.out 2 (c := ⟨b7, 127, m12 P n (Z12.mul N Y Y)⟩) ?_ ?_ (m12 P n (Z12.mul N (Z12.mul N Y Y) X)) ?_ ?_ ?_ ?_ Try.szE12 ?_); rfl; rfl; rfl; rfl; rfl; rfl; rfl; rfl; intro wb hS hO; clear hO; have hqb : Hid (St w wb [⟨b4, 127, m12 P n X⟩, ⟨b6, 127, z0 72⟩, ⟨b7, 127, m12 P n (Z12.mul N (Z12.mul N Y Y) X)⟩]) := hide hS; clear hS))
        go_roundg i
        case measure => omega
        case rel => exact ⟨by omega, by simp, by rw [hrd.out]; exact hqb.out⟩
end Go.Proofs.Ytincemkjdgbnnaa
