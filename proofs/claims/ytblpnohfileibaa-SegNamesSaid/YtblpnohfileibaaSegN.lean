/- seg.Name gives the letter w and sixteen hex digits, for every number below 2^64. -/
import Derived.Test.YtblpnohfileibaaHex
import Derived.Test.YtblpnohfileibaaNames
namespace Go.Proofs.Ytblpnohfileibaa
open Go.RowKit

def be8 (n : Nat) : List UInt8 := [UInt8.ofNat (n / 72057594037927936), UInt8.ofNat (n / 281474976710656), UInt8.ofNat (n / 1099511627776), UInt8.ofNat (n / 4294967296), UInt8.ofNat (n / 16777216), UInt8.ofNat (n / 65536), UInt8.ofNat (n / 256), UInt8.ofNat n]
def nameL (n : Nat) : List UInt8 := 119 :: hexs (be8 n)
def nmCells (n k : Nat) : Array Value := (#[bv 0, bv 0, bv 0, bv 0, bv 0, bv 0, bv 0, bv 0].toList.take (8 - k) ++ ((be8 n).map bv).drop (8 - k)).toArray

theorem nm_zero (n k : Nat) (hk : k < 8) : (nmCells n k)[7 - k]? = some (.int .u8 0) := by
  have h : k = 0 ∨ k = 1 ∨ k = 2 ∨ k = 3 ∨ k = 4 ∨ k = 5 ∨ k = 6 ∨ k = 7 := by omega
  rcases h with rfl | rfl | rfl | rfl | rfl | rfl | rfl | rfl <;> simp [nmCells, bv, be8]
theorem nm_step (n k : Nat) (hk : k < 8) : (nmCells n k).setIfInBounds (7 - k) (.int .u8 ((n / 256 ^ k % 256 : Nat) : Int)) = nmCells n (k + 1) := by
  have h : k = 0 ∨ k = 1 ∨ k = 2 ∨ k = 3 ∨ k = 4 ∨ k = 5 ∨ k = 6 ∨ k = 7 := by omega
  rcases h with rfl | rfl | rfl | rfl | rfl | rfl | rfl | rfl <;> simp [nmCells, bv, be8]

set_option maxRecDepth 100000 in
theorem Name_any (n : Nat) (hn : n < 18446744073709551616) (w : World) :
    Calls Try.prog 12 #[.int .u64 (n : Int)] w fun e w' => e = .returned (.string ⟨(nameL n).toArray⟩) ∧ Below w.heap.size w w' := by
  go_enter Try.func12, Try.ntmps12
  go_wp2_with fail
  go_loopw [5] (fun i wr => ∃ k : Nat, k ≤ 8 ∧ i = .int .i64 k ∧ wr.heap[w.heap.size]? = some (.cells (nmCells n k) 84 (0, 0)) ∧ Below w.heap.size w wr) (fun i _ => 8 - (intOf i).toNat)
  case atStart => refine ⟨0, by omega, rfl, ?_, (Below.refl _ _).alloc (Nat.le_refl _) _⟩; rw [heap_alloc_new]; simp [nmCells, bv, be8]
  case round =>
    obtain ⟨k, hk, rfl, hblk, hb⟩ := hrel
    by_cases hlt : k < 8
    · have hc : wr.cell? ⟨w.heap.size, 7 - k, none⟩ = some (.int .u8 0) := (cell_of_row wr _ (7 - k) _ _ _ hblk).trans (nm_zero n k hlt)
      have hf : wr.frozen? ⟨w.heap.size, 7 - k, none⟩ = false := frozen_of_row wr _ (7 - k) _ _ hblk
      have hs : (wr.setCell ⟨w.heap.size, 7 - k, none⟩ (.int .u8 ((n / 256 ^ k % 256 : Nat) : Int))).heap[w.heap.size]? = some (.cells (nmCells n (k + 1)) 84 (0, 0)) := by
        rw [heap_setCell_same _ _ _ _ _ _ hblk, nm_step n k hlt]
      have hb' := hb.setCell (p := ⟨w.heap.size, 7 - k, none⟩) (Nat.le_refl _) (.int .u8 ((n / 256 ^ k % 256 : Nat) : Int))
      have hm : (n : Int) / 72057594037927936 % 256 = (n : Int) / 72057594037927936 := by omega
      have HM := Lib.hid hm
      clear hm
      have HS := Lib.hid hs
      have HB := Lib.hid hb'
      clear hs hb' hblk
      have h : k = 0 ∨ k = 1 ∨ k = 2 ∨ k = 3 ∨ k = 4 ∨ k = 5 ∨ k = 6 ∨ k = 7 := by omega
      rcases h with rfl | rfl | rfl | rfl | rfl | rfl | rfl | rfl
      all_goals
        simp only [Nat.reduceSub, Nat.sub_zero] at hc hf
        go_wp2_with fail
        first
          | exact ⟨⟨1, by omega, rfl, by simpa using HS.out, by simpa using HB.out⟩, by simp [intOf]⟩
          | exact ⟨⟨2, by omega, rfl, by simpa using HS.out, by simpa using HB.out⟩, by simp [intOf]⟩
          | exact ⟨⟨3, by omega, rfl, by simpa using HS.out, by simpa using HB.out⟩, by simp [intOf]⟩
          | exact ⟨⟨4, by omega, rfl, by simpa using HS.out, by simpa using HB.out⟩, by simp [intOf]⟩
          | exact ⟨⟨5, by omega, rfl, by simpa using HS.out, by simpa using HB.out⟩, by simp [intOf]⟩
          | exact ⟨⟨6, by omega, rfl, by simpa using HS.out, by simpa using HB.out⟩, by simp [intOf]⟩
          | exact ⟨⟨7, by omega, rfl, by simpa using HS.out, by simpa using HB.out⟩, by simp [intOf]⟩
          | exact ⟨⟨8, by omega, rfl, by simpa [HM.out] using HS.out, by simpa [HM.out] using HB.out⟩, by simp [intOf]⟩
    · obtain rfl : k = 8 := by omega
      have hby : By wr (some ⟨w.heap.size, 0, none⟩) 8 (be8 n) := by
        refine ⟨rfl, fun _ => ⟨_, _, rfl, fun j u hu => ?_⟩⟩
        rw [Nat.zero_add, cell_of_row wr _ j _ _ _ hblk]
        simpa [nmCells] using hu
      clear hblk
      have hlen : (hexs (be8 n)).length ≤ 16 := by rw [hexs_length]; simp [be8]
      go_wp2_with (go_at_call 45; refine (Hex_some _ 8 8 _ _ hby (by omega) (by omega)).mono ?_; rintro e w' ⟨rfl, hb'⟩)
      go_ret
      refine ⟨by simp [nameL]; rfl, hb.trans (hb'.mono hb.size)⟩
end Go.Proofs.Ytblpnohfileibaa
