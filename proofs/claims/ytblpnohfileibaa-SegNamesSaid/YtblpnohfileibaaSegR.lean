/- The reference of seg.Name gives the same text, for every number below 2^64. -/
import Derived.Test.YtblpnohfileibaaSegN
namespace Go.Proofs.Ytblpnohfileibaa
open Go.RowKit

def hexLow (n : Nat) : Nat → List UInt8
  | 0 => []
  | k + 1 => hexd (n / 16 ^ k % 16) :: hexLow n k
theorem hexLow_length (n k : Nat) : (hexLow n k).length = k := by induction k with
  | zero => rfl
  | succ k ih => simp [hexLow, ih]

theorem hex_at (r : Nat) (h : r < 16) : (⟨#[48, 49, 50, 51, 52, 53, 54, 55, 56, 57, 97, 98, 99, 100, 101, 102]⟩ : ByteArray).extract r (r + 1) = ⟨#[hexd r]⟩ := by
  have h : r = 0 ∨ r = 1 ∨ r = 2 ∨ r = 3 ∨ r = 4 ∨ r = 5 ∨ r = 6 ∨ r = 7 ∨ r = 8 ∨ r = 9 ∨ r = 10 ∨ r = 11 ∨ r = 12 ∨ r = 13 ∨ r = 14 ∨ r = 15 := by omega
  rcases h with rfl | rfl | rfl | rfl | rfl | rfl | rfl | rfl | rfl | rfl | rfl | rfl | rfl | rfl | rfl | rfl <;> rfl
theorem ba_append (a b : List UInt8) : (⟨a.toArray⟩ : ByteArray) ++ ⟨b.toArray⟩ = ⟨(a ++ b).toArray⟩ := by
  apply ByteArray.ext
  simp
theorem hexLow_name (n : Nat) : 119 :: hexLow n 16 = nameL n := by
  unfold nameL be8 hexs
  simp only [hexLow, List.flatMap_cons, List.flatMap_nil, List.append_nil, List.cons_append, List.nil_append, UInt8.toNat_ofNat']
  congr 1
  simp only [List.cons.injEq, and_true]
  refine ⟨?_, ?_, ?_, ?_, ?_, ?_, ?_, ?_, ?_, ?_, ?_, ?_, ?_, ?_, ?_, ?_⟩ <;> (congr 1; omega)

set_option maxRecDepth 100000 in
theorem refName_any (n : Nat) (hn : n < 18446744073709551616) (w : World) :
    Calls Try.prog 14 #[.int .u64 (n : Int)] w fun e w' => e = .returned (.string ⟨(nameL n).toArray⟩) ∧ w = w' := by
  go_enter Try.func14, Try.ntmps14
  go_wp2_with fail
  go_loop [0, 3, 4] (fun a s i => ∃ k : Nat, k ≤ 16 ∧ i = .int .i64 k ∧ a = .int .u64 ((n / 16 ^ k : Nat) : Int) ∧ s = .string ⟨(hexLow n k).toArray⟩) (fun _ _ i => 16 - (intOf i).toNat)
  case atStart => exact ⟨0, by omega, rfl, by simp, rfl⟩
  case round =>
    obtain ⟨k, hk, rfl, rfl, rfl⟩ := hrel
    by_cases hlt : k < 16
    · have hq : n / 16 ^ k < 18446744073709551616 := Nat.lt_of_le_of_lt (Nat.div_le_self _ _) hn
      have hlen : (hexLow n k).length ≤ 16 := by rw [hexLow_length]; exact hk
      generalize hg : n / 16 ^ k = q at *
      have HG := Lib.hid hg
      clear hg
      go_wp2_with fail
      refine ⟨⟨k + 1, by omega, by go_num, ?_, ?_⟩, by simp [intOf]; omega⟩
      · rw [Nat.pow_succ, ← Nat.div_div_eq_div_mul, HG.out]
        simp
      · rw [hex_at _ (by omega)]
        have := ba_append [hexd (q % 16)] (hexLow n k)
        rw [show (⟨#[hexd (q % 16)]⟩ : ByteArray) = ⟨[hexd (q % 16)].toArray⟩ from rfl, this, hexLow, HG.out]
        rfl
    · obtain rfl : k = 16 := by omega
      have hlen := hexLow_length n 16
      have hl2 : (hexLow n 16).length ≤ 16 := by omega
      clear hlen
      go_wp2
      go_ret
      refine ⟨?_, rfl⟩
      rw [← hexLow_name]
      have := ba_append [119] (hexLow n 16)
      simp only [] at this ⊢
      exact congrArg (fun x => Ending.returned (.string x)) this
end Go.Proofs.Ytblpnohfileibaa
