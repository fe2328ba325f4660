/- Layer 35: is a script large? -/
import Derived.Test.YtfdafkjoienpmaaRefKeep
namespace Go.Proofs.Ytfdafkjoienpmaa
open Go.RowKit

/-- what Large answers; where it says no, there are few events -/
def LargeR (n : Nat) (l : List Ev) (w : World) (r : Ending) (w' : World) : Prop :=
  ∃ b : Bool, r = .returned (.bool b) ∧ (b = false → n ≤ 250 ∧ ∀ e ∈ l, e.dn ≤ 5000) ∧ w = w'

theorem large_bool (n : Nat) : ∃ b : Bool, (decide ((n : Int) > 250)) = b := ⟨_, rfl⟩

set_option maxRecDepth 100000 in
theorem Large_any (A : Option Addr) (n c : Nat) (l : List Ev) (w : World) (hl : Evs w A n l) (hok : ∀ e ∈ l, e.dn ≤ 140737488355328) (hn : n ≤ 140737488355328) :
    Calls Try.prog 4 #[.slice A n c] w (LargeR n l w) := by
  have HL := Lib.hid hl
  have HO := Lib.hid hok
  clear hl hok
  go_enter Try.func4, Try.ntmps4
  go_wp2
  go_loop [3, 4] (fun s i => ∃ k s' : Nat, k ≤ n ∧ k ≤ 250 ∧ i = .int .i64 k ∧ s = .int .i64 s' ∧ s' ≤ 5000 ∧ ∀ (j : Nat) (e : Ev), j < k → l[j]? = some e → e.dn ≤ 5000) (fun _ i => n - (intOf i).toNat)
  case atStart => exact ⟨0, 0, Nat.zero_le _, Nat.zero_le _, rfl, rfl, Nat.zero_le _, fun j e hj => absurd hj (Nat.not_lt_zero _)⟩
  case round =>
    obtain ⟨k, s, hk, hk2, rfl, rfl, hs, hall⟩ := hrel
    have HALL := Lib.hid hall
    clear hall
    by_cases hlt : k < n
    · obtain ⟨b, o, e, rfl, he, hc⟩ := Evs.ev HL.out hlt
      have hd := HO.out e (List.mem_of_getElem? he)
      obtain ⟨d0, d1, d2, d3, d4, d5, d6, d7⟩ := hc
      have HE := Lib.hid he
      clear he
      by_cases hk3 : k < 250
      · by_cases ht : 100 < e.tenant.size
        · go_wp2
          go_ret
          exact ⟨true, by simp, fun h => (Bool.noConfusion h), rfl⟩
        · by_cases hs2 : 5000 < s + e.dn
          · go_wp2
            go_ret
            exact ⟨true, by simp, fun h => (Bool.noConfusion h), rfl⟩
          · go_wp2
            refine ⟨⟨k + 1, s + e.dn, by omega, by omega, by go_num, by go_num, by omega, fun j e' hj hj' => ?_⟩, by simp [intOf]; omega⟩
            by_cases hjk : j < k
            · exact HALL.out j e' hjk hj'
            · obtain rfl : j = k := by omega
              rw [HE.out] at hj'
              cases hj'
              omega
      · go_wp2
        go_ret
        refine ⟨decide (250 < (n : Int)), by simp, fun h => ?_, rfl⟩
        simp at h
        have hnk : n ≤ k := by omega
        exact absurd hlt (by omega)
    · go_wp2
      go_ret
      refine ⟨decide (250 < (n : Int)), by simp, fun h => ?_, rfl⟩
      simp at h
      refine ⟨by omega, fun e he => ?_⟩
      obtain ⟨j, hj, rfl⟩ := List.mem_iff_getElem.1 he
      exact HALL.out j _ (by have := HL.out.1; omega) (List.getElem?_eq_getElem hj)
end Go.Proofs.Ytfdafkjoienpmaa
