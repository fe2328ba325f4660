/- Events that came in, opened. -/
import Derived.Test.YtfdafkjoienpmaaOpen
import Derived.Test.YtfdafkjoienpmaaEvK
namespace Go.Proofs.Ytfdafkjoienpmaa
open Go.RowKit Go.ChangeShapes Go.WideShapes

instance : Inhabited Ev := ⟨⟨0, 0, 0, ⟨#[]⟩, 0, 0, 0, none, 0, 0, []⟩⟩

/-- what is known of an event that came in -/
def EvIn (w : World) (e : Ev) : Prop := By w e.dA e.dn e.data ∧ (e.dA = none → e.dn = 0)

theorem cells_ev : Try.prog.cellsOf 30 = 8 := by kernel_rfl
theorem cells_int : Try.prog.cellsOf 3 = 1 := by kernel_rfl
theorem cells_u64 : Try.prog.cellsOf 27 = 1 := by kernel_rfl
theorem cells_str : Try.prog.cellsOf 9 = 1 := by kernel_rfl
theorem cells_by : Try.prog.cellsOf 28 = 1 := by kernel_rfl
theorem cells_u8 : Try.prog.cellsOf 5 = 1 := by kernel_rfl
theorem bytes_u8 : Try.prog.bytesOf 5 = 1 := by kernel_rfl
theorem bytes_int : Try.prog.bytesOf 3 = 8 := by kernel_rfl
theorem bytes_ev : Try.prog.bytesOf 30 = 88 := by kernel_rfl

section
variable {H : Type} {enc : TypeId × Value → H} {w : World} {base : Nat} {spare : Nat → Bool} {held : Bool}

theorem weights_last {P : Program} {ts : List TypeId} {ds : List (DataW H)} {t : TypeId} {d : DataW H} {q : Nat} (h : ts.length = ds.length) (hq : q ∈ d.weights P t) : q ∈ DataW.weightsEach P (ts ++ [t]) (ds ++ [d]) := by
  induction ts generalizing ds with
  | nil =>
    have : ds = [] := List.eq_nil_of_length_eq_zero h.symm
    subst this
    simpa [DataW.weightsEach] using hq
  | cons t0 ts ih =>
    cases ds with
    | nil => simp at h
    | cons d0 ds =>
      simp only [List.cons_append, DataW.weightsEach, List.mem_append]
      exact Or.inr (ih (by simpa using h))

set_option maxRecDepth 100000 in
theorem open_ev {fuel : Nat} {cs : List Value} {x : DataW H × List MemPlace} (h : DataW.trod enc Try.prog w base spare held fuel 30 cs = some x) :
    ∃ e : Ev, cs = evCells e ∧ EvIn w e ∧ ∀ B, (∀ q ∈ x.1.weights Try.prog 30, q ≤ B) → e.dn ≤ B := by
  obtain ⟨xs, n, _, rfl, hl, hxl, hf⟩ := DataW.trod_struct Try.underlying30 h
  rw [cells_ev] at hl
  match cs, hl, xs, hxl with
  | [c0, c1, c2, c3, c4, c5, c6, c7], _, [x0, x1, x2, x3, x4, x5, x6, x7], _ =>
    have t0 : DataW.trod enc Try.prog w base spare held n 3 (([c0, c1, c2, c3, c4, c5, c6, c7].drop 0).take (Try.prog.cellsOf 3)) = some x0 := hf 0 _ rfl
    have t1 : DataW.trod enc Try.prog w base spare held n 3 (([c0, c1, c2, c3, c4, c5, c6, c7].drop 1).take (Try.prog.cellsOf 3)) = some x1 := hf 1 _ rfl
    have t2 : DataW.trod enc Try.prog w base spare held n 3 (([c0, c1, c2, c3, c4, c5, c6, c7].drop 2).take (Try.prog.cellsOf 3)) = some x2 := hf 2 _ rfl
    have t3 : DataW.trod enc Try.prog w base spare held n 9 (([c0, c1, c2, c3, c4, c5, c6, c7].drop 3).take (Try.prog.cellsOf 9)) = some x3 := hf 3 _ rfl
    have t4 : DataW.trod enc Try.prog w base spare held n 27 (([c0, c1, c2, c3, c4, c5, c6, c7].drop 4).take (Try.prog.cellsOf 27)) = some x4 := hf 4 _ rfl
    have t5 : DataW.trod enc Try.prog w base spare held n 3 (([c0, c1, c2, c3, c4, c5, c6, c7].drop 5).take (Try.prog.cellsOf 3)) = some x5 := hf 5 _ rfl
    have t6 : DataW.trod enc Try.prog w base spare held n 27 (([c0, c1, c2, c3, c4, c5, c6, c7].drop 6).take (Try.prog.cellsOf 27)) = some x6 := hf 6 _ rfl
    have t7 : DataW.trod enc Try.prog w base spare held n 28 (([c0, c1, c2, c3, c4, c5, c6, c7].drop 7).take (Try.prog.cellsOf 28)) = some x7 := hf 7 _ rfl
    simp only [cells_int, cells_str, cells_u64, cells_by, List.drop, List.take, List.getElem?_cons_zero, List.getElem?_cons_succ] at t0 t1 t2 t3 t4 t5 t6 t7
    obtain ⟨k, e0, _, _⟩ := DataW.trod_int Try.underlying3 t0
    obtain ⟨s, e1, _, _⟩ := DataW.trod_int Try.underlying3 t1
    obtain ⟨st, e2, _, _⟩ := DataW.trod_int Try.underlying3 t2
    obtain ⟨tn, e3, _, _⟩ := DataW.trod_string Try.underlying9 t3
    obtain ⟨nn, e4, _, _⟩ := DataW.trod_int Try.underlying27 t4
    obtain ⟨m, e5, _, _⟩ := DataW.trod_int Try.underlying3 t5
    obtain ⟨bi, e6, _, _⟩ := DataW.trod_int Try.underlying27 t6
    obtain ⟨A, dn, dc, e7⟩ : ∃ A dn dc, c7 = .slice A dn dc := by
      rcases DataW.trod_slice Try.underlying28 t7 with ⟨h7, _⟩ | ⟨a, len, cap, _, _, _, _, h7, _⟩
      · simp only [List.cons.injEq, and_true] at h7
        exact ⟨_, _, _, h7⟩
      · simp only [List.cons.injEq, and_true] at h7
        exact ⟨_, _, _, h7⟩
    subst e7
    obtain ⟨l, hby, hnil, hB⟩ := open_bytes_rd Try.underlying28 Try.underlying5 cells_u8 t7
    simp only [List.cons.injEq, and_true] at e0 e1 e2 e3 e4 e5 e6
    subst e0 e1 e2 e3 e4 e5 e6
    refine ⟨⟨k, s, st, tn, nn, m, bi, A, dn, dc, l⟩, rfl, ⟨hby, hnil⟩, fun B hq => ?_⟩
    have := hB B (fun q hq' => hq q (by
      simp only [DataW.weights, Try.underlying30]
      exact weights_last (ts := [_, _, _, _, _, _, _]) (ds := [_, _, _, _, _, _, _]) rfl hq'))
    rw [bytes_u8, Nat.mul_one] at this
    exact this

theorem weights_elem {P : Program} {e : TypeId} {l : List (DataW H)} {d : DataW H} {q : Nat} (hd : d ∈ l) (hq : q ∈ d.weights P e) : q ∈ DataW.weightsAll P e l := by
  induction l with
  | nil => cases hd
  | cons x l ih =>
    simp only [DataW.weightsAll, List.mem_append]
    cases hd with
    | head => exact Or.inl hq
    | tail _ h => exact Or.inr (ih h)

theorem open_evs {fuel : Nat} {A : Option Addr} {n c : Nat} {x : DataW H × List MemPlace} (h : DataW.trod enc Try.prog w base spare held fuel 23 [.slice A n c] = some x) :
    ∃ l : List Ev, Evs w A n l ∧ (A = none → n = 0) ∧ (∀ e ∈ l, EvIn w e) ∧ ∀ B, (∀ q ∈ x.1.weights Try.prog 23, q ≤ B) → n * 88 ≤ B ∧ ∀ e ∈ l, e.dn ≤ B := by
  rcases Go.Deep.open_slice Try.underlying23 h with ⟨hcs, rfl⟩ | ⟨a, len, cap, m, f, D, Pl, hcs, _, hl, hm, hmm, rfl, hx⟩
  · simp only [List.cons.injEq, Value.slice.injEq, and_true] at hcs
    obtain ⟨rfl, rfl, rfl⟩ := hcs
    exact ⟨[], ⟨rfl, evCells_length, fun h => absurd h (Nat.lt_irrefl _)⟩, fun _ => rfl, fun e he => absurd he List.not_mem_nil, fun B _ => ⟨by omega, fun e he => absurd he List.not_mem_nil⟩⟩
  · simp only [List.cons.injEq, Value.slice.injEq, and_true] at hcs
    obtain ⟨rfl, rfl, rfl⟩ := hcs
    have hnm : n ≤ m := by rw [hmm]; split <;> omega
    obtain ⟨E, hE⟩ := Go.Deep.choose_lt (n := n) (p := fun i (e : Ev) => w.cells? base (a.add (i * 8)) 8 = some (evCells e) ∧ EvIn w e ∧ ∀ B, (∀ q ∈ (D i).weights Try.prog 30, q ≤ B) → e.dn ≤ B) (fun i hi => by
      obtain ⟨cs', h1, h2⟩ := hx i (by omega)
      rw [cells_ev] at h1
      obtain ⟨e, rfl, h3, h4⟩ := open_ev h2
      exact ⟨e, h1, h3, h4⟩)
    refine ⟨(List.range n).map E, ⟨by simp, evCells_length, fun hn => ?_⟩, (fun h => by cases h), ?_, fun B hB => ⟨?_, ?_⟩⟩
    · obtain ⟨b, o, spot⟩ := a
      have h0 := (World.cells?_some (hE 0 hn).1).2.2 0 (by omega)
      have hspot : spot = none := by
        have := World.cell?_spot (h0.trans rfl)
        simpa [Addr.add] using this
      subst hspot
      refine ⟨b, o, rfl, fun j e he i u hu => ?_⟩
      obtain ⟨hj, rfl⟩ : j < n ∧ E j = e := by
        rw [List.getElem?_map] at he
        by_cases hj : j < n
        · rw [List.getElem?_range hj] at he
          exact ⟨hj, by simpa using he⟩
        · rw [List.getElem?_eq_none (by simpa using hj)] at he; cases he
      have hi : i < 8 := by have := (List.getElem?_eq_some_iff.1 hu).1; rwa [evCells_length] at this
      have := (World.cells?_some (hE j hj).1).2.2 i hi
      rw [add_plain, add_plain] at this
      rw [← Nat.add_assoc, this, hu]
    · intro e he
      obtain ⟨i, hi, rfl⟩ := List.mem_map.1 he
      exact (hE i (List.mem_range.1 hi)).2.1
    · have := hB ((((List.range n).map D).length + ((List.range (m - n)).map fun j => D (n + j)).length) * Try.prog.bytesOf 30) (by simp [DataW.weights, Try.underlying23])
      rw [bytes_ev] at this
      refine Nat.le_trans (Nat.mul_le_mul_right _ ?_) this
      simp
    · intro e he
      obtain ⟨i, hi, rfl⟩ := List.mem_map.1 he
      refine (hE i (List.mem_range.1 hi)).2.2 B fun q hq => hB q ?_
      simp only [DataW.weights, Try.underlying23, List.mem_cons, List.mem_append]
      exact Or.inr (Or.inl (weights_elem (List.mem_map.2 ⟨i, hi, rfl⟩) hq))
end
end Go.Proofs.Ytfdafkjoienpmaa
