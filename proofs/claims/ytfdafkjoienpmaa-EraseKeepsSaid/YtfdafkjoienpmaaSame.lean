/- The reference's comparison of two lists of bytes. -/
import Derived.Test.YtfdafkjoienpmaaProg
import Derived.Test.YtfdafkjoienpmaaBase
import Derived.Deep.QuietTactic
import Derived.BigQuiet
namespace Go.Proofs.Ytfdafkjoienpmaa
open Go.RowKit

def sameB (l l' : List UInt8) : Bool := l == l'
theorem sameB_of {l l' : List UInt8} (hl : l.length = l'.length) {k : Nat} {x y : UInt8} (hx : l[k]? = some x) (hy : l'[k]? = some y) (hne : ¬ x = y) : sameB l l' = false := by
  unfold sameB
  rw [beq_eq_false_iff_ne]
  intro e
  rw [e, hy] at hx
  exact hne (Option.some.inj hx).symm

set_option maxRecDepth 100000 in
theorem Same_any (A A' : Option Addr) (n n' c c' : Nat) (l l' : List UInt8) (w : World) (h : By w A n l) (h' : By w A' n' l') (hn : n ≤ 100000000000) :
    Calls Try.prog 20 #[.slice A n c, .slice A' n' c'] w fun e w' => e = .returned (.bool (sameB l l')) ∧ Below w.heap.size w w' := by
  have hl : l.length = n := by simpa using h.1
  have hl' : l'.length = n' := by simpa using h'.1
  by_cases hnn : n = n'
  · subst hnn
    have HL := Lib.hid hl
    have HL' := Lib.hid hl'
    clear hl hl'
    go_enter Try.func20, Try.ntmps20
    go_wp2
    go_loopw [5] (fun i wr => ∃ k : Nat, k ≤ n ∧ i = .int .i64 k ∧ (∀ j, j < k → l[j]? = l'[j]?) ∧ Below w.heap.size w wr) (fun i _ => n - (intOf i).toNat)
    case atStart => exact ⟨0, by omega, rfl, fun j h => absurd h (Nat.not_lt_zero _), bel_rfl⟩
    case round =>
      obtain ⟨k, hk, rfl, hall, hb⟩ := hrel
      have HALL := Lib.hid hall
      clear hall
      by_cases hlt : k < n
      · obtain ⟨b, o, rfl, x, hx, hc⟩ := By.at_ (Rd.below h hb) hlt
        obtain ⟨b', o', rfl, y, hy, hc'⟩ := By.at_ (Rd.below h' hb) hlt
        have HX := Lib.hid hx
        have HY := Lib.hid hy
        have HH := Lib.hid h
        have HH' := Lib.hid h'
        clear hx hy h h'
        by_cases hxy : x = y
        · subst hxy
          go_wp2
          go_quiet (fail)
          go_wp2
          refine ⟨⟨k + 1, by omega, by go_num, fun j hj => ?_, below_drewN hb _⟩, by simp [intOf]; omega⟩
          by_cases hjk : j < k
          · exact HALL.out j hjk
          · obtain rfl : j = k := by omega
            rw [HX.out, HY.out]
        · have hne : ((x.toNat : Int) == (y.toNat : Int)) = false := by
            rw [beq_eq_false_iff_ne]; intro e; exact hxy (UInt8.toNat_inj.1 (by omega))
          have hne2 : ((x.toNat : Int) != (y.toNat : Int)) = true := by simp [bne, hne]
          have HXY := Lib.hid hxy
          clear hxy
          go_wp2
          go_quiet (fail)
          go_wp2
          go_ret
          exact ⟨ret_bool (sameB_of (by rw [HL.out, HL'.out]) HX.out HY.out HXY.out).symm, below_drewN hb _⟩
      · go_wp2
        go_ret
        refine ⟨ret_bool ?_, hb⟩
        have : l = l' := by
          apply List.ext_getElem?
          intro j
          by_cases hj : j < k
          · exact HALL.out j hj
          · rw [List.getElem?_eq_none (by rw [HL.out]; omega), List.getElem?_eq_none (by rw [HL'.out]; omega)]
        simp [sameB, this]
  · have hne : ((n : Int) == (n' : Int)) = false := by rw [beq_eq_false_iff_ne]; omega
    have hne2 : ((n : Int) != (n' : Int)) = true := by simp [bne, hne]
    have hs : sameB l l' = false := by
      unfold sameB; rw [beq_eq_false_iff_ne]; intro e; subst e; exact hnn (hl.symm.trans hl')
    rw [hs]
    clear hl hl' hs
    go_enter Try.func20, Try.ntmps20
    go_wp2
    go_ret
    exact ⟨by simp, bel_rfl⟩
end Go.Proofs.Ytfdafkjoienpmaa
