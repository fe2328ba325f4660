/- name.Hex gives two hex digits for each byte, for every slice of bytes of at most 10^11 bytes that is not empty. -/
import Derived.Test.YtblpnohfileibaaProg
import Derived.Test.YtblpnohfileibaaTypes
namespace Go.Proofs.Ytblpnohfileibaa
open Go.RowKit

def hexd (x : Nat) : UInt8 := UInt8.ofNat (if x < 10 then 48 + x else 87 + x)
def hexs (l : List UInt8) : List UInt8 := l.flatMap fun b => [hexd (b.toNat / 16), hexd (b.toNat % 16)]

theorem sign_any (x : Int) (h0 : 0 ≤ x) (h1 : x ≤ 15) (w : World) :
    Calls Try.prog 77 #[.int .u8 x] w fun e w' => e = .returned (.int .u8 ((hexd x.toNat).toNat : Int)) ∧ w = w' := by
  have hx : ((hexd x.toNat).toNat : Int) = if x < 10 then 48 + x else 87 + x := by
    unfold hexd
    rw [UInt8.toNat_ofNat']
    split <;> split <;> omega
  rw [hx]; clear hx
  by_cases h : x < 10
  · go_enter Try.func77, Try.ntmps77
    go_wp2
    go_ret
    simp [h]
  · go_enter Try.func77, Try.ntmps77
    go_wp2
    go_ret
    simp [h]
    omega

theorem hexs_snoc (l : List UInt8) (x : UInt8) : hexs (l ++ [x]) = hexs l ++ [hexd (x.toNat / 16), hexd (x.toNat % 16)] := by simp [hexs]
theorem hexs_length (l : List UInt8) : (hexs l).length = 2 * l.length := by
  induction l with
  | nil => rfl
  | cons x l ih => simp [hexs] at *; omega

set_option maxRecDepth 100000 in
theorem Hex_some (A : Option Addr) (n c : Nat) (l : List UInt8) (w : World) (h : By w A n l) (hn : n ≤ 100000000000) (h0 : 0 < n) :
    Calls Try.prog 45 #[.slice A n c] w fun e w' => e = .returned (.string ⟨(hexs l).toArray⟩) ∧ Below w.heap.size w w' := by
  have hl : l.length = n := by simpa using h.1
  obtain ⟨b, o, rfl, _⟩ := h.at_ h0
  have hne : ((n : Int) == 0) = false := by simp; omega
  go_enter Try.func45, Try.ntmps45
  go_wp2_with (at_make; refine mk_u8 _ rfl _ _ rfl w.heap.size _ _ _ (2 * n) rfl rfl (by omega) (by omega) (Nat.le_refl _) ?_; intro w1 hown hgrow)
  go_loopw [3, 15] (fun v i wr => ∃ k : Nat, k ≤ n ∧ i = .int .i64 k ∧ wr.ownsRow w.heap.size 5 1 v (2 * k) ((hexs (l.take k)).map bv) ∧ Below w.heap.size w wr) (fun _ i _ => n - (intOf i).toNat)
  case atStart => exact ⟨0, Nat.zero_le _, rfl, by simpa [hexs] using hown, (Below.refl _ _).grown hgrow (Nat.le_refl _) (fun k h => by cases h)⟩
  case round =>
    obtain ⟨k, hk, rfl, hrow, hb⟩ := hrel
    by_cases hlt : k < n
    · obtain ⟨b', o', hA, x, hx, hc⟩ := h.at_ hlt
      cases hA
      have hcell : wr.cell? ⟨b, o + k, none⟩ = some (.int .u8 (x.toNat : Int)) := (hb.cell (p := ⟨b, o + k, none⟩) (cell_lt hc)).trans hc
      have hxl := x.toNat_lt
      have hsz := hb.size
      have HX := Lib.hid hx
      have HN := Lib.hid hl
      clear hx hc hl
      go_wp2_with (first | (go_at_call 77; refine (sign_any _ (by omega) (by omega) _).mono ?_; rintro e w' ⟨rfl, rfl⟩) | (at_builtin; refine app_u8 _ rfl _ _ rfl w.heap.size _ _ _ rfl (hrow.alloc _) _ _ _ [bv (hexd (x.toNat / 16)), bv (hexd (x.toNat % 16))] rfl (Rd.lit _ 1 2 _ _ rfl) (bv_oneCell [_, _]) (by omega) (by simp; omega) ?_; intro A1 c1 w1 hown1 hgrow1 hblk1))
      refine ⟨⟨k + 1, by omega, by go_num, ?_, ?_⟩, by simp [intOf]; omega⟩
      · rw [List.take_add_one, HX.out]
        simp only [Option.toList_some, hexs_snoc, List.map_append]
        exact hown1
      · exact (hb.alloc hb.size _).grown hgrow1 (by simp; omega) (fun g hg => (hrow.lt g hg).1)
    · obtain rfl : k = n := by omega
      obtain ⟨A, cc, rfl, _, _⟩ := own_slice hrow
      have hcv := cv_b2s (own_by hrow) cc
      go_wp2
      go_ret
      rw [List.take_of_length_le (by omega)]
      exact ⟨by simp, hb⟩
end Go.Proofs.Ytblpnohfileibaa
