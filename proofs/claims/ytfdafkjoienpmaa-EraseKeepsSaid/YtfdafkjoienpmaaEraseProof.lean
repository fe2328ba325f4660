/- EraseKeeps: for every tenant, list of sessions and list of events the law taximeterlaw42.EraseKeeps returns true and leaves its arguments as they were. No condition beyond the row's own. -/
import Derived.Test.YtfdafkjoienpmaaRows
import Derived.Test.YtfdafkjoienpmaaErase
import Derived.Test.YtfdafkjoienpmaaEvOpen
import Derived.ProofKit
import Derived.OpenShut
import Derived.ShutString
import Derived.ChangeOld
import Derived.SizedLaws
namespace Go.Proofs.Ytfdafkjoienpmaa.eraseKeeps
open Go.ChangeShapes Go.WideShapes Go.ChangeAt Go.RowKit
open Go.ChangeMaps (open_string shut_string)

theorem own : ownKnob Try.prog.godebug = none := by kernel_rfl
theorem laidOut : laidOutB Try.prog = true := by kernel_rfl

theorem reach_le : reachBytes ≤ 140737488355328 := by decide

set_option maxRecDepth 100000 in
theorem lifted (os : Os) (started : os.Started) (H : Type) (enc : TypeId × Value → H) :
    ReturnsInHanded {} Try.checked os 3 .any (Rows.eraseKeepsSpec.pre6 enc Try.prog Try.f3 Rows.eraseKeepsRow.domain false) (Rows.eraseKeepsSpec.post enc Try.prog Try.f3 false true false false) := by
  refine returnsInHanded_of_change_sized (C := Try.checked) own started (by kernel_rfl) Try.func3
    (ChangeSpec.witness6 (enc := enc) (C := Try.checked) false ⟨#[], #[.string ByteArray.empty, .slice none 0 0, .slice none 0 0], []⟩ 8 (by kernel_rfl) (by kernel_rfl) (by kernel_rfl) (by kernel_rfl)) ?_
  intro W base args ds gs before hval0 hW hcnd hsz _
  have hval : ∀ (j : Nat) t v, Try.f3.params[j]? = some t → args[j]? = some v → Value.okWide Try.prog W .any base t v := hval0
  have hW' := hW
  obtain ⟨p, q, hA0, hV, rfl, hfz, hnd⟩ := hW
  have hA : DataW.TrodAll enc Try.prog W 0 (fun _ => true) true Try.f3.params.toList args.toList ds p := hA0
  rw [Try.params3] at hA hval
  obtain ⟨v0, vs0, d0, ds0, p0, q0, hargs, rfl, rfl, h0, r0⟩ := trodAll_cons hA
  obtain ⟨v1, vs1, d1, ds1, p1, q1, rfl, rfl, rfl, h1, r1⟩ := trodAll_cons r0
  obtain ⟨v2, vs2, d2, ds2, p2, q2, rfl, rfl, rfl, h2, r2⟩ := trodAll_cons r1
  obtain ⟨rfl, rfl, rfl⟩ := trodAll_nil r2
  obtain rfl : args = #[v0, v1, v2] := by cases args; simp_all
  obtain ⟨rfl, rfl⟩ := trodVars_none hV
  obtain ⟨a0, rfl, rfl, rfl, w0⟩ := open_string Try.underlying9 (hval 0 9 v0 rfl rfl) h0
  obtain ⟨A1, n1, c1, rfl⟩ := okWide_slice Try.underlying22 (hval 1 22 v1 rfl rfl)
  obtain ⟨A2, n2, c2, rfl⟩ := okWide_slice Try.underlying23 (hval 2 23 v2 rfl rfl)
  have k1 := h1
  have k2 := h2
  have lt1 : ∀ x ∈ p1, x.block < W.heap.size := by obtain ⟨m, hm⟩ := k1; exact DataW.trod_lt m _ _ _ hm
  have lt2 : ∀ x ∈ p2, x.block < W.heap.size := by obtain ⟨m, hm⟩ := k2; exact DataW.trod_lt m _ _ _ hm
  obtain ⟨f1, t1⟩ := h1
  obtain ⟨f2, t2⟩ := h2
  obtain ⟨zs, hr1, _, _, hn1, hB1⟩ := open_ints_rd Try.underlying22 Try.underlying3 cells_int t1
  obtain ⟨l, hr2, hn2, hin, hB2⟩ := open_evs t2
  have hw : ∀ q ∈ DataW.weightsEach Try.prog [9, 22, 23] [DataW.lit (.string a0.data.toList), d1, d2], q ≤ reachBytes := by
    have hall : (DataW.weightsEach Try.prog (Try.f3.params.toList ++ []) ([DataW.lit (.string a0.data.toList), d1, d2] ++ [])).all (· ≤ reachBytes) = true := hsz
    rw [Try.params3] at hall
    intro q hq
    have := List.all_eq_true.1 hall q (by simpa using hq)
    simpa using this
  have s1 := hB1 reachBytes (fun q hq => hw q (DataW.weights_mem_each (j := 1) rfl rfl q hq))
  have s2 := hB2 reachBytes (fun q hq => hw q (DataW.weights_mem_each (j := 2) rfl rfl q hq))
  rw [bytes_int] at s1
  have hre := reach_le
  clear hA0 hval0 hval
  simp only [List.append_nil] at hW'
  refine (law_any a0 A1 n1 c1 zs A2 n2 c2 l W hr1 hr2 (fun e he => ⟨(hin e he).1, Nat.le_trans (s2.2 e he) hre, (hin e he).2⟩) (by omega) (by omega) hn2).mono fun e W' ⟨he, bel⟩ => ?_
  subst he
  exact ⟨_, rfl, _, _, _, [], _, [], hW', trodAll_mk1 (shut_bool Try.underlying4 _), (trodAll_cons_mk (shut_string Try.underlying9 w0) (trodAll_cons_mk (Below.trod laidOut (by kernel_rfl) (of_decide_eq_true (by kernel_rfl)) k1 bel lt1) (trodAll_cons_mk (Below.trod laidOut (by kernel_rfl) (of_decide_eq_true (by kernel_rfl)) k2 bel lt2) trodAll_mk0))), rfl, bel.frame _, fun h => by cases h⟩

theorem over : Rows.eraseKeepsRow.holds Try.pinned (OpenSpec.ofChange Rows.eraseKeepsSpec) :=
  OpenClaim.holds_of_wide 3 Try.f3 rfl rfl rfl rfl rfl rfl rfl ⟨rfl, rfl, rfl, rfl, rfl⟩ rfl rfl rfl rfl rfl (by kernel_rfl) Try.func3 (by kernel_rfl)
    (of_decide_eq_true (by kernel_rfl)) (by unfold Func.isWrapper; first | (rw [if_pos (by decide +kernel)]; kernel_rfl) | (rw [if_neg (by decide +kernel)]; exact ⟨rfl, rfl⟩))
    (fun os started H enc _ => lifted os started H enc)

theorem proved : Rows.EraseKeepsSaid := over
end Go.Proofs.Ytfdafkjoienpmaa.eraseKeeps
