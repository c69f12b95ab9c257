/- Walks: package field: prime, New: the six fields. -/
import Derived.Test.YtincemkjdgbnnaaFieE
set_option linter.unusedVariables false
set_option linter.unusedSimpArgs false
namespace Go.Proofs.Ytincemkjdgbnnaa
open Go.RowKit Lm

/-- the six primes. -/
def kP (k : Int) : Nat :=
  if k = 1 then 115792089237316195423570985008687907853269984665640564039457584007908834671663
  else if k = 2 then 115792089237316195423570985008687907852837564279074904382605163141518161494337
  else if k = 3 then 21888242871839275222246405745257275088696311157297823662689037894645226208583
  else if k = 4 then 21888242871839275222246405745257275088548364400416034343698204186575808495617
  else if k = 5 then 4002409555221667393417789825735904156556882819939007885332058136124031650490837864442687629129015664037894272559787
  else if k = 6 then 52435875175126190479447740508185965837690552500527637822603658699938581184513
  else 0
/-- how many limbs, how many bytes. -/
def kn (k : Int) : Nat := if k = 5 then 6 else 4
def ksz (k : Int) : Nat := if k = 5 then 48 else 32
/-- their digits. -/
def pstr (k : Int) : ByteArray :=
  if k = 1 then ⟨#[102, 102, 102, 102, 102, 102, 102, 102, 102, 102, 102, 102, 102, 102, 102, 102, 102, 102, 102, 102, 102, 102, 102, 102, 102, 102, 102, 102, 102, 102, 102, 102, 102, 102, 102, 102, 102, 102, 102, 102, 102, 102, 102, 102, 102, 102, 102, 102, 102, 102, 102, 102, 102, 102, 102, 101, 102, 102, 102, 102, 102, 99, 50, 102]⟩
  else if k = 2 then ⟨#[102, 102, 102, 102, 102, 102, 102, 102, 102, 102, 102, 102, 102, 102, 102, 102, 102, 102, 102, 102, 102, 102, 102, 102, 102, 102, 102, 102, 102, 102, 102, 101, 98, 97, 97, 101, 100, 99, 101, 54, 97, 102, 52, 56, 97, 48, 51, 98, 98, 102, 100, 50, 53, 101, 56, 99, 100, 48, 51, 54, 52, 49, 52, 49]⟩
  else if k = 3 then ⟨#[51, 48, 54, 52, 52, 101, 55, 50, 101, 49, 51, 49, 97, 48, 50, 57, 98, 56, 53, 48, 52, 53, 98, 54, 56, 49, 56, 49, 53, 56, 53, 100, 57, 55, 56, 49, 54, 97, 57, 49, 54, 56, 55, 49, 99, 97, 56, 100, 51, 99, 50, 48, 56, 99, 49, 54, 100, 56, 55, 99, 102, 100, 52, 55]⟩
  else if k = 4 then ⟨#[51, 48, 54, 52, 52, 101, 55, 50, 101, 49, 51, 49, 97, 48, 50, 57, 98, 56, 53, 48, 52, 53, 98, 54, 56, 49, 56, 49, 53, 56, 53, 100, 50, 56, 51, 51, 101, 56, 52, 56, 55, 57, 98, 57, 55, 48, 57, 49, 52, 51, 101, 49, 102, 53, 57, 51, 102, 48, 48, 48, 48, 48, 48, 49]⟩
  else if k = 5 then ⟨#[49, 97, 48, 49, 49, 49, 101, 97, 51, 57, 55, 102, 101, 54, 57, 97, 52, 98, 49, 98, 97, 55, 98, 54, 52, 51, 52, 98, 97, 99, 100, 55, 54, 52, 55, 55, 52, 98, 56, 52, 102, 51, 56, 53, 49, 50, 98, 102, 54, 55, 51, 48, 100, 50, 97, 48, 102, 54, 98, 48, 102, 54, 50, 52, 49, 101, 97, 98, 102, 102, 102, 101, 98, 49, 53, 51, 102, 102, 102, 102, 98, 57, 102, 101, 102, 102, 102, 102, 102, 102, 102, 102, 97, 97, 97, 98]⟩
  else if k = 6 then ⟨#[55, 51, 101, 100, 97, 55, 53, 51, 50, 57, 57, 100, 55, 100, 52, 56, 51, 51, 51, 57, 100, 56, 48, 56, 48, 57, 97, 49, 100, 56, 48, 53, 53, 51, 98, 100, 97, 52, 48, 50, 102, 102, 102, 101, 53, 98, 102, 101, 102, 102, 102, 102, 102, 102, 102, 102, 48, 48, 48, 48, 48, 48, 48, 49]⟩
  else ⟨#[]⟩
def isKind (k : Int) : Prop := k = 1 ∨ k = 2 ∨ k = 3 ∨ k = 4 ∨ k = 5 ∨ k = 6

theorem prime_any (k : Int) (w : World) : Calls Try.prog 105 #[.int .i64 k] w fun e w' => e = .returned (.string (pstr k)) ∧ w' = w := by
  go_enter Try.func105, Try.ntmps105
  by_cases h1 : k = 1
  · subst h1; go_wp2_with fail; go_ret; exact ⟨rfl, rfl⟩
  by_cases h2 : k = 2
  · subst h2; go_wp2_with fail; go_ret; exact ⟨rfl, rfl⟩
  by_cases h3 : k = 3
  · subst h3; go_wp2_with fail; go_ret; exact ⟨rfl, rfl⟩
  by_cases h4 : k = 4
  · subst h4; go_wp2_with fail; go_ret; exact ⟨rfl, rfl⟩
  by_cases h5 : k = 5
  · subst h5; go_wp2_with fail; go_ret; exact ⟨rfl, rfl⟩
  by_cases h6 : k = 6
  · subst h6; go_wp2_with fail; go_ret; exact ⟨rfl, rfl⟩
  have hp : pstr k = ⟨#[]⟩ := by unfold pstr; rw [if_neg h1, if_neg h2, if_neg h3, if_neg h4, if_neg h5, if_neg h6]
  have hp := hide hp
  go_wp2_with fail
  go_ret
  exact ⟨by rw [hp.out]; rfl, rfl⟩

/-- what the six have in common. -/
structure KOk (k : Int) : Prop where
  sz : (pstr k).size = 16 * kn k
  hx : ∀ (i : Nat) (h : i < (pstr k).size), isHex ((pstr k)[i]'h).toNat
  vl : val 16 (sdig (pstr k)) = kP k
  lt : kP k < B64 ^ kn k
  gt : B64 ^ (kn k - 1) ≤ kP k
  inv : InvOk (kP k)
  n1 : 0 < kn k
  n6 : kn k ≤ 6
  sz2 : ksz k = 8 * kn k
theorem hexAll {s : ByteArray} (h : s.data.toList.all (fun c => (48 ≤ c.toNat && c.toNat < 58) || (97 ≤ c.toNat && c.toNat < 103)) = true) : ∀ (i : Nat) (h : i < s.size), isHex (s[i]'h).toNat := fun i hi => by
  have := (List.all_eq_true.1 h) (s[i]'hi) (by
    have : s[i]'hi = s.data.toList[i]'(by simpa using hi) := rfl
    rw [this]; exact List.getElem_mem _)
  simp only [Bool.or_eq_true, Bool.and_eq_true, decide_eq_true_eq] at this
  exact this
theorem kok1 : KOk 1 := ⟨by decide +kernel, hexAll (by decide +kernel), by decide +kernel, by decide +kernel, by decide +kernel, by unfold InvOk; decide +kernel, by decide, by decide, by decide⟩
theorem kok2 : KOk 2 := ⟨by decide +kernel, hexAll (by decide +kernel), by decide +kernel, by decide +kernel, by decide +kernel, by unfold InvOk; decide +kernel, by decide, by decide, by decide⟩
theorem kok3 : KOk 3 := ⟨by decide +kernel, hexAll (by decide +kernel), by decide +kernel, by decide +kernel, by decide +kernel, by unfold InvOk; decide +kernel, by decide, by decide, by decide⟩
theorem kok4 : KOk 4 := ⟨by decide +kernel, hexAll (by decide +kernel), by decide +kernel, by decide +kernel, by decide +kernel, by unfold InvOk; decide +kernel, by decide, by decide, by decide⟩
theorem kok5 : KOk 5 := ⟨by decide +kernel, hexAll (by decide +kernel), by decide +kernel, by decide +kernel, by decide +kernel, by unfold InvOk; decide +kernel, by decide, by decide, by decide⟩
theorem kok6 : KOk 6 := ⟨by decide +kernel, hexAll (by decide +kernel), by decide +kernel, by decide +kernel, by decide +kernel, by unfold InvOk; decide +kernel, by decide, by decide, by decide⟩
theorem kok {k : Int} (h : isKind k) : KOk k := by
  rcases h with rfl | rfl | rfl | rfl | rfl | rfl
  · exact kok1
  · exact kok2
  · exact kok3
  · exact kok4
  · exact kok5
  · exact kok6
end Go.Proofs.Ytincemkjdgbnnaa
