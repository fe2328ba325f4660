/- Layer 42: does the program answer at all; is a script large? -/
import Derived.Test.YtfdafkjoienpmaaRefKeep
namespace Go.Proofs.Ytfdafkjoienpmaa
open Go.RowKit

def evB : Ev := { kind := 10, session := 0, stream := 0, tenant := { data := #[98] }, n := 0, m := 0, bits := 0, dA := none, dn := 0, dc := 0, data := [] }
def evT : Ev := { kind := 9, session := 0, stream := 0, tenant := { data := #[] }, n := 0, m := 0, bits := 0, dA := none, dn := 0, dc := 0, data := [] }

theorem ownAB : ownB { data := #[97] } [1, 2] evB = false := by kernel_rfl
theorem ownBB : ownB { data := #[98] } [] evB = true := by kernel_rfl
theorem allEvB : allB 10 = false := by kernel_rfl
theorem allEvT : allB 9 = true := by kernel_rfl

theorem OwnA (b : Nat) (w : World) (h : Ints w (some ⟨b, 0, none⟩) 2 [1, 2]) : Calls Try.prog 6 #[.string { data := #[97] }, .slice (some ⟨b, 0, none⟩) 2 2, .agg #[.int .i64 10, .int .i64 0, .int .i64 0, .string { data := #[98] }, .int .u64 0, .int .i64 0, .int .u64 0, .slice none 0 0]] w fun r w' => r = .returned (.bool false) ∧ Below w.heap.size w w' := by
  have := Own_any { data := #[97] } (some ⟨b, 0, none⟩) 2 2 [1, 2] evB w h (by omega)
  rw [ownAB] at this
  exact this
theorem OwnB (w : World) : Calls Try.prog 6 #[.string { data := #[98] }, .slice none 0 0, .agg #[.int .i64 10, .int .i64 0, .int .i64 0, .string { data := #[98] }, .int .u64 0, .int .i64 0, .int .u64 0, .slice none 0 0]] w fun r w' => r = .returned (.bool true) ∧ Below w.heap.size w w' := by
  have := Own_any { data := #[98] } none 0 0 [] evB w ⟨rfl, fun h => absurd h (Nat.lt_irrefl _)⟩ (by omega)
  rw [ownBB] at this
  exact this
theorem AllB (w : World) : Calls Try.prog 8 #[.agg #[.int .i64 10, .int .i64 0, .int .i64 0, .string { data := #[98] }, .int .u64 0, .int .i64 0, .int .u64 0, .slice none 0 0]] w fun r w' => r = .returned (.bool false) ∧ Below w.heap.size w w' := by
  have := All_any evB w
  rw [show evB.kind = 10 from rfl, allEvB] at this
  exact this
theorem AllT (w : World) : Calls Try.prog 8 #[.agg #[.int .i64 9, .int .i64 0, .int .i64 0, .string { data := #[] }, .int .u64 0, .int .i64 0, .int .u64 0, .slice none 0 0]] w fun r w' => r = .returned (.bool true) ∧ Below w.heap.size w w' := by
  have := All_any evT w
  rw [show evT.kind = 9 from rfl, allEvT] at this
  exact this

abbrev evBC : Array Value := #[.int .i64 10, .int .i64 0, .int .i64 0, .string { data := #[98] }, .int .u64 0, .int .i64 0, .int .u64 0, .slice none 0 0]
theorem evB_two (w : World) (ds : Array Value) (t1 t2 : TypeId) : EvAt ((w.alloc (.cells evBC t1)).alloc (.cells ds t2)) w.heap.size 0 evB :=
  EvAt.below (w := w.alloc (.cells evBC t1)) (EvAt.of fun i u hu => by rw [Nat.zero_add, cell_of_row _ _ _ _ _ _ (heap_alloc_new _ _)]; simpa [evCells, evB] using hu) ((Below.refl _ _).alloc (Nat.le_refl _) _)

theorem evB_at {w w' : World} {ds : Array Value} {t1 t2 : TypeId} (hb : Below ((w.alloc (.cells evBC t1)).alloc (.cells ds t2)).heap.size ((w.alloc (.cells evBC t1)).alloc (.cells ds t2)) w') : w'.cell? ⟨w.heap.size, 0, none⟩ = some (.int .i64 10) ∧ w'.cell? ⟨w.heap.size, 1, none⟩ = some (.int .i64 0) ∧ w'.cell? ⟨w.heap.size, 2, none⟩ = some (.int .i64 0) ∧ w'.cell? ⟨w.heap.size, 3, none⟩ = some (.string { data := #[98] }) ∧ w'.cell? ⟨w.heap.size, 4, none⟩ = some (.int .u64 0) ∧ w'.cell? ⟨w.heap.size, 5, none⟩ = some (.int .i64 0) ∧ w'.cell? ⟨w.heap.size, 6, none⟩ = some (.int .u64 0) ∧ w'.cell? ⟨w.heap.size, 7, none⟩ = some (.slice none 0 0) := (evB_two w ds t1 t2).below hb

theorem ints12 (w : World) (cs : Array Value) (t1 t2 : TypeId) : Ints ((w.alloc (.cells cs t1)).alloc (.cells #[.int .i64 1, .int .i64 2] t2)) (some ⟨w.heap.size + 1, 0, none⟩) 2 [1, 2] := by
  have := Rd.lit (w.alloc (.cells cs t1)) 1 2 #[.int .i64 1, .int .i64 2] t2 rfl
  rw [World.size_alloc] at this
  exact this

set_option maxRecDepth 100000 in
theorem awake_any (w : World) : Calls Try.prog 5 #[] w fun r w' => r = .returned (.bool true) ∧ Below w.heap.size w w' := by
  have hb0 : ∀ cs ds t1 t2, Below w.heap.size w ((w.alloc (.cells cs t1)).alloc (.cells ds t2)) := fun cs ds t1 t2 => ((Below.refl _ _).alloc (Nat.le_refl _) _).alloc (by simp) _
  have hz : ∀ w, (zeroValue 30).run Try.prog w = .ok (.agg #[.int .i64 0, .int .i64 0, .int .i64 0, .string ⟨#[]⟩, .int .u64 0, .int .i64 0, .int .u64 0, .slice none 0 0]) w := fun w => zero_ev w
  have HB0 := Lib.hid hb0
  clear hb0
  go_enter Try.func5, Try.ntmps5
  go_wp2_with (first
    | (go_at_call 6; with_reducible refine (OwnA _ _ (ints12 _ _ _ _)).mono ?_; rintro r w1 ⟨rfl, hb1⟩; obtain ⟨c0, c1, c2, c3, c4, c5, c6, c7⟩ := evB_at hb1)
    | (go_at_call 6; with_reducible refine (OwnB _).mono ?_; rintro r w2 ⟨rfl, hb2⟩; obtain ⟨d0, d1, d2, d3, d4, d5, d6, d7⟩ := evB_at (bel_trans hb1 hb2))
    | (go_at_call 8; with_reducible refine (AllB _).mono ?_; rintro r w3 ⟨rfl, hb3⟩)
    | (go_at_call 8; with_reducible refine (AllT _).mono ?_; rintro r w4 ⟨rfl, hb4⟩))
  go_ret
  exact ⟨by simp, bel_trans (bel_trans (bel_trans (bel_trans (HB0.out _ _ _ _) hb1) hb2) hb3) hb4⟩
end Go.Proofs.Ytfdafkjoienpmaa
