/- The walk of the law SegNames: it returns true for every two numbers below 2^64 and every string. -/
import Derived.Test.YtblpnohfileibaaSegPlain
namespace Go.Proofs.Ytblpnohfileibaa
open Go.RowKit

theorem Number_no (s : ByteArray) (h : ∀ d, s.data.toList = 119 :: d → d.length = 16 → hexk d = false) (w : World) :
    Calls Try.prog 11 #[.string s] w fun e w' => e = .returned (.tuple #[.int .u64 0, .int .i64 2]) ∧ Below w.heap.size w w' := by
  by_cases hl : s.data.toList.length = 17
  · obtain ⟨c0, d, hs⟩ : ∃ c0 d, s.data.toList = c0 :: d := by
      cases hh : s.data.toList with
      | nil => rw [hh] at hl; simp at hl
      | cons c d => exact ⟨c, d, rfl⟩
    have hd : d.length = 16 := by rw [hs] at hl; simpa using hl
    by_cases hc : c0 = 119
    · subst hc
      exact Number_bad3 s d hs hd (h d hs hd) w
    · exact (Number_bad2 s c0 d hs hd hc w).mono fun e w' ⟨h1, h2⟩ => ⟨h1, h2 ▸ bel_rfl⟩
  · exact (Number_bad1 s hl w).mono fun e w' ⟨h1, h2⟩ => ⟨h1, h2 ▸ bel_rfl⟩

def d255 : List UInt8 := [48, 48, 48, 48, 48, 48, 48, 48, 48, 48, 48, 48, 48, 48, 102, 102]
theorem awake13 (w : World) : Calls Try.prog 10 #[] w fun e w' => e = .returned (.bool true) ∧ Below w.heap.size w w' := by
  have hN := fun w => Number_hex ⟨#[119, 48, 48, 48, 48, 48, 48, 48, 48, 48, 48, 48, 48, 48, 48, 102, 102]⟩ d255 rfl rfl (by decide) w
  have hv255 : ((hv d255 : Nat) : Int) = 255 := by decide
  rw [hv255] at hN
  have HN := Lib.hid hN
  have hM := fun w => Name_any 255 (by omega) w
  have hnm : nameL 255 = [119, 48, 48, 48, 48, 48, 48, 48, 48, 48, 48, 48, 48, 48, 48, 102, 102] := by decide
  rw [hnm] at hM
  have HM := Lib.hid hM
  clear hN hv255 hM hnm
  go_enter Try.func10, Try.ntmps10
  go_wp2_with (first | (go_at_call 11; refine (HN.out _).mono ?_; rintro e w' ⟨rfl, hb⟩) | (go_at_call 12; refine (HM.out _).mono ?_; rintro e w' ⟨rfl, hb2⟩))
  go_ret
  exact ⟨by simp, bel_trans hb hb2⟩

theorem Number_name (n : Nat) (hn : n < 18446744073709551616) (w : World) :
    Calls Try.prog 11 #[.string ⟨(nameL n).toArray⟩] w fun e w' => e = .returned (.tuple #[.int .u64 (n : Int), .int .i64 0]) ∧ Below w.heap.size w w' := by
  have := Number_hex ⟨(nameL n).toArray⟩ (hexLow n 16) (by rw [name_eq]) (hexLow_length n 16) (hexLow_hexk n 16) w
  rw [hv_name n hn] at this
  exact this

set_option maxRecDepth 100000 in
theorem segNames_walk (a b : Nat) (s : ByteArray) (ha : a < 18446744073709551616) (hb : b < 18446744073709551616) (w : World) :
    Calls Try.prog 3 #[.int .u64 (a : Int), .int .u64 (b : Int), .string s] w fun e w' => e = .returned (.bool true) ∧ Below w.heap.size w w' := by
  have HA := Lib.hid ha
  have HB := Lib.hid hb
  clear ha hb
  by_cases hl : 100 < s.size
  · go_enter Try.func3, Try.ntmps3
    go_wp2_with (go_at_call 10; refine (awake13 _).mono ?_; rintro e w' ⟨rfl, hb⟩)
    go_ret
    exact ⟨by simp, hb⟩
  have hless := less_name a b HA.out HB.out
  have hL : ∀ n, (⟨(nameL n).toArray⟩ : ByteArray).toList = nameL n := fun n => by rw [Lib.toList_data]
  by_cases hyes : ∃ d, s.data.toList = 119 :: d ∧ d.length = 16 ∧ hexk d = true
  · obtain ⟨d, hs, hd, hk⟩ := hyes
    have HS := Lib.hid hs
    have HD := Lib.hid hd
    have HK := Lib.hid hk
    have hR := fun w => refNumber_any s d 119 hs hd w
    rw [name_hv d hd hk, beq_self_eq_true] at hR
    have HR := Lib.hid hR
    clear hs hd hk hR
    go_enter Try.func3, Try.ntmps3
    go_wp2_with (first
      | (go_at_call 10; refine (awake13 _).mono ?_; rintro e w' ⟨rfl, hb⟩)
      | (go_at_call 12; refine (Name_any _ (by first | exact HA.out | exact HB.out) _).mono ?_; rintro e w' ⟨rfl, hb⟩)
      | (go_at_call 14; refine (refName_any _ HA.out _).mono ?_; rintro e w' ⟨rfl, rfl⟩)
      | (go_at_call 13; refine (HR.out _).mono ?_; rintro e w' ⟨rfl, rfl⟩)
      | (go_at_call 11; with_reducible refine (Number_name _ HA.out _).mono ?_; rintro e w' ⟨rfl, hb⟩)
      | (go_at_call 11; with_reducible refine (Number_hex s d HS.out HD.out HK.out _).mono ?_; rintro e w' ⟨rfl, hb⟩))
    go_ret
    refine ⟨by simp, ?_⟩
    repeat (first | exact bel_rfl | assumption | refine bel_trans ?_ (by assumption))
  · have hno : ∀ d, s.data.toList = 119 :: d → d.length = 16 → hexk d = false := by
      intro d h1 h2
      cases h3 : hexk d
      · rfl
      · exact absurd ⟨d, h1, h2, h3⟩ hyes
    have HNO := Lib.hid hno
    have hR : ∃ v : Nat, ∀ w, Calls Try.prog 13 #[.string s] w fun e w' => e = .returned (.tuple #[.int .u64 (v : Int), .bool false]) ∧ w = w' := by
      by_cases hl : s.data.toList.length = 17
      · obtain ⟨c0, d, hs⟩ : ∃ c0 d, s.data.toList = c0 :: d := by
          cases hh : s.data.toList with
          | nil => rw [hh] at hl; simp at hl
          | cons c d => exact ⟨c, d, rfl⟩
        have hd : d.length = 16 := by rw [hs] at hl; simpa using hl
        refine ⟨hv d, fun w => ?_⟩
        have := refNumber_any s d c0 hs hd w
        rw [name_beq c0 d hd] at this
        have hf : (c0 == 119 && hexk d) = false := by
          by_cases hc : c0 = 119
          · subst hc; simp [hno d hs hd]
          · simp [hc]
        rw [hf] at this
        exact this
      · exact ⟨0, fun w => refNumber_no s hl w⟩
    obtain ⟨v, hR⟩ := hR
    have HR := Lib.hid hR
    clear hR hno hyes
    go_enter Try.func3, Try.ntmps3
    go_wp2_with (first
      | (go_at_call 10; refine (awake13 _).mono ?_; rintro e w' ⟨rfl, hb⟩)
      | (go_at_call 12; refine (Name_any _ (by first | exact HA.out | exact HB.out) _).mono ?_; rintro e w' ⟨rfl, hb⟩)
      | (go_at_call 14; refine (refName_any _ HA.out _).mono ?_; rintro e w' ⟨rfl, rfl⟩)
      | (go_at_call 13; refine (HR.out _).mono ?_; rintro e w' ⟨rfl, rfl⟩)
      | (go_at_call 11; with_reducible refine (Number_name _ HA.out _).mono ?_; rintro e w' ⟨rfl, hb⟩)
      | (go_at_call 11; with_reducible refine (Number_no s HNO.out _).mono ?_; rintro e w' ⟨rfl, hb⟩))
    go_ret
    refine ⟨by simp, ?_⟩
    repeat (first | exact bel_rfl | assumption | refine bel_trans ?_ (by assumption))
end Go.Proofs.Ytblpnohfileibaa
