/- seg.taker, walked. -/
import Derived.Test.YtblpnohfileibaaSTornM2
import Derived.Maps.AppendAt
import Derived.Test.YtblpnohfileibaaSTornM0
import Derived.ChangeSlices
import Derived.Deep.Slices
import Derived.Test.YtblpnohfileibaaProg
namespace Go.Proofs.Ytblpnohfileibaa
open Go.RowKit

set_option maxHeartbeats 2000000 in
set_option maxRecDepth 100000 in
theorem take_rec (F B : Nat) (first : Bool) (aw : Nat) (A : Option Addr) (n c : Nat) (l : List UInt8) (w : World) (hF : Bl w F [.bool first]) (hB : Bl w B [.int .u64 aw]) (hFB : F ≠ B) (h : By w A n l) (hn : n ≤ 100000000000) :
    Calls Try.prog 84 #[.slice A n c, .pointer (some ⟨F, 0, none⟩), .pointer (some ⟨B, 0, none⟩)] w (TakR F B (takeT first aw l) w) := by
  have hz := zero_rec
  have hD := fun w' (hb : Below w.heap.size w w') => Decode_any A n c l w' (Rd.below h hb) hn
  have ht : takeT first aw l = if (decS l).2 ≠ 0 ∨ (first = false ∧ (decS l).1.seq ≠ aw) then (zeroRec, false, first, aw) else ((decS l).1, true, false, ((decS l).1.seq + 1) % 18446744073709551616) := rfl
  unfold DecR at hD
  generalize takeT first aw l = x at *
  generalize (decS l).1 = r at *
  generalize (decS l).2 = er at *
  have HD := Lib.hid hD
  have HT := Lib.hid ht
  have HF := Lib.hid hF
  have HB := Lib.hid hB
  have hFlt := hF.lt
  have hBlt := hB.lt
  clear hD ht hF hB h
  by_cases he : er = 0
  · subst he
    cases first with
    | true =>
      have HE := Lib.hid (show ¬ ((0 : Int) ≠ 0 ∨ (true = false ∧ r.seq ≠ aw)) from by simp)
      go_enter Try.func84, Try.ntmps84
      go_wp2_with (first
        | (go_at_call 85; (with_reducible refine (HD.out _ ((Below.refl _ _).alloc (Nat.le_refl _) _)).mono ?_); rintro e w1 ⟨rfl, hb1⟩; have H1 := Lib.hid (tk_facts HF.out HB.out hb1 r); have hw1 : w.heap.size < w1.heap.size := (by have := hb1.size; simp at this; omega); obtain ⟨cF, cB, fF, fB⟩ := H1.out.2.2; clear hb1)
        | (guard_target = wpList _ _ _ ({ dst := none, op := Op.store 37 (.tmp 4) (.tmp 29), type := _, pos := _, after := _, guard := none } :: _) _ _; refine wpList_stBl rfl 37 (.tmp 4) (.tmp 29) rfl w.heap.size [.int .u64 0, .int .i64 0, .string ⟨#[]⟩, .int .u64 0, .int .u64 0, .int .u64 0] (recCells r) rfl rfl (tk_set H1.out.1 hFlt hBlt) size_rec rfl (recCells_one _) ?_; intro w8 hz8 hf8 hs8; have H8 := Lib.hid (And.intro hz8 hf8); clear hz8 hf8 hs8))
      refine bodyPost_ret (results_cell_bl rfl _ w.heap.size (recCells r) (.bool true) _ rfl rfl _ Try.underlying37 rfl size_rec H8.out.1) rfl ?_
      rw [HT.out, if_neg HE.out]
      exact tk_yes H1.out.2.1 hFlt hBlt hFB HF.out HB.out H8.out.2
    | false =>
      by_cases hs : r.seq = aw
      · have hs' : ((r.seq : Int) != (aw : Int)) = false := by simp [hs]
        have HS := Lib.hid hs
        have HE := Lib.hid (show ¬ ((0 : Int) ≠ 0 ∨ (false = false ∧ r.seq ≠ aw)) from by simp [HS.out])
        clear hs
        go_enter Try.func84, Try.ntmps84
        go_wp2_with (first
          | (go_at_call 85; (with_reducible refine (HD.out _ ((Below.refl _ _).alloc (Nat.le_refl _) _)).mono ?_); rintro e w1 ⟨rfl, hb1⟩; have H1 := Lib.hid (tk_facts HF.out HB.out hb1 r); have hw1 : w.heap.size < w1.heap.size := (by have := hb1.size; simp at this; omega); obtain ⟨cF, cB, fF, fB⟩ := H1.out.2.2; clear hb1)
          | (guard_target = wpList _ _ _ ({ dst := none, op := Op.store 37 (.tmp 4) (.tmp 29), type := _, pos := _, after := _, guard := none } :: _) _ _; refine wpList_stBl rfl 37 (.tmp 4) (.tmp 29) rfl w.heap.size [.int .u64 0, .int .i64 0, .string ⟨#[]⟩, .int .u64 0, .int .u64 0, .int .u64 0] (recCells r) rfl rfl (tk_set H1.out.1 hFlt hBlt) size_rec rfl (recCells_one _) ?_; intro w8 hz8 hf8 hs8; have H8 := Lib.hid (And.intro hz8 hf8); clear hz8 hf8 hs8))
        refine bodyPost_ret (results_cell_bl rfl _ w.heap.size (recCells r) (.bool true) _ rfl rfl _ Try.underlying37 rfl size_rec H8.out.1) rfl ?_
        rw [HT.out, if_neg HE.out]
        exact tk_yes H1.out.2.1 hFlt hBlt hFB HF.out HB.out H8.out.2
      · have hs' : ((r.seq : Int) != (aw : Int)) = true := by rw [bne_iff_ne]; omega
        have HE := Lib.hid (show (0 : Int) ≠ 0 ∨ (false = false ∧ r.seq ≠ aw) from .inr ⟨rfl, hs⟩)
        clear hs
        go_enter Try.func84, Try.ntmps84
        go_wp2_with (first
          | (go_at_call 85; (with_reducible refine (HD.out _ ((Below.refl _ _).alloc (Nat.le_refl _) _)).mono ?_); rintro e w1 ⟨rfl, hb1⟩; have H1 := Lib.hid (tk_facts HF.out HB.out hb1 r); have hw1 : w.heap.size < w1.heap.size := (by have := hb1.size; simp at this; omega); obtain ⟨cF, cB, fF, fB⟩ := H1.out.2.2; clear hb1)
          | (guard_target = wpList _ _ _ ({ dst := none, op := Op.store 37 (.tmp 4) (.tmp 25), type := _, pos := _, after := _, guard := none } :: _) _ _; refine wpList_stBl rfl 37 (.tmp 4) (.tmp 25) rfl w.heap.size [.int .u64 0, .int .i64 0, .string ⟨#[]⟩, .int .u64 0, .int .u64 0, .int .u64 0] (recCells zeroRec) rfl rfl H1.out.1 size_rec rfl (recCells_one _) ?_; intro w8 hz8 hf8 hs8; have H8 := Lib.hid (And.intro hz8 hf8); clear hz8 hf8 hs8))
        refine bodyPost_ret (results_cell_bl rfl _ w.heap.size (recCells zeroRec) (.bool false) _ rfl rfl _ Try.underlying37 rfl size_rec H8.out.1) rfl ?_
        rw [HT.out, if_pos HE.out]
        exact tk_no H1.out.2.1 hFlt hBlt HF.out HB.out H8.out.2
  · have he' : (er != 0) = true := by simpa using he
    cases first with
    | true =>
      have HE := Lib.hid (show er ≠ 0 ∨ (true = false ∧ r.seq ≠ aw) from .inl he)
      clear he
      go_enter Try.func84, Try.ntmps84
      go_wp2_with (first
        | (go_at_call 85; (with_reducible refine (HD.out _ ((Below.refl _ _).alloc (Nat.le_refl _) _)).mono ?_); rintro e w1 ⟨rfl, hb1⟩; have H1 := Lib.hid (tk_facts HF.out HB.out hb1 r); have hw1 : w.heap.size < w1.heap.size := (by have := hb1.size; simp at this; omega); obtain ⟨cF, cB, fF, fB⟩ := H1.out.2.2; clear hb1)
        | (guard_target = wpList _ _ _ ({ dst := none, op := Op.store 37 (.tmp 4) (.tmp 25), type := _, pos := _, after := _, guard := none } :: _) _ _; refine wpList_stBl rfl 37 (.tmp 4) (.tmp 25) rfl w.heap.size [.int .u64 0, .int .i64 0, .string ⟨#[]⟩, .int .u64 0, .int .u64 0, .int .u64 0] (recCells zeroRec) rfl rfl H1.out.1 size_rec rfl (recCells_one _) ?_; intro w8 hz8 hf8 hs8; have H8 := Lib.hid (And.intro hz8 hf8); clear hz8 hf8 hs8))
      refine bodyPost_ret (results_cell_bl rfl _ w.heap.size (recCells zeroRec) (.bool false) _ rfl rfl _ Try.underlying37 rfl size_rec H8.out.1) rfl ?_
      rw [HT.out, if_pos HE.out]
      exact tk_no H1.out.2.1 hFlt hBlt HF.out HB.out H8.out.2
    | false =>
      have HE := Lib.hid (show er ≠ 0 ∨ (false = false ∧ r.seq ≠ aw) from .inl he)
      clear he
      go_enter Try.func84, Try.ntmps84
      go_wp2_with (first
        | (go_at_call 85; (with_reducible refine (HD.out _ ((Below.refl _ _).alloc (Nat.le_refl _) _)).mono ?_); rintro e w1 ⟨rfl, hb1⟩; have H1 := Lib.hid (tk_facts HF.out HB.out hb1 r); have hw1 : w.heap.size < w1.heap.size := (by have := hb1.size; simp at this; omega); obtain ⟨cF, cB, fF, fB⟩ := H1.out.2.2; clear hb1)
        | (guard_target = wpList _ _ _ ({ dst := none, op := Op.store 37 (.tmp 4) (.tmp 25), type := _, pos := _, after := _, guard := none } :: _) _ _; refine wpList_stBl rfl 37 (.tmp 4) (.tmp 25) rfl w.heap.size [.int .u64 0, .int .i64 0, .string ⟨#[]⟩, .int .u64 0, .int .u64 0, .int .u64 0] (recCells zeroRec) rfl rfl H1.out.1 size_rec rfl (recCells_one _) ?_; intro w8 hz8 hf8 hs8; have H8 := Lib.hid (And.intro hz8 hf8); clear hz8 hf8 hs8))
      refine bodyPost_ret (results_cell_bl rfl _ w.heap.size (recCells zeroRec) (.bool false) _ rfl rfl _ Try.underlying37 rfl size_rec H8.out.1) rfl ?_
      rw [HT.out, if_pos HE.out]
      exact tk_no H1.out.2.1 hFlt hBlt HF.out HB.out H8.out.2
end Go.Proofs.Ytblpnohfileibaa

/- box.Valid, walked. -/
namespace Go.Proofs.Ytblpnohfileibaa
open Go.RowKit Go.Shelf
attribute [local go_sem] Oper.semAt_some

theorem boxes_any (A : Option Addr) (n c : Nat) (w : World) :
    Calls Try.prog 86 #[.slice A n c] w fun e w' => e = .returned (.func (.func 109) #[] #[.pointer (some ⟨w.heap.size, 0, none⟩)]) ∧ w' = w.alloc (.cells #[.slice A n c] 32) := by
  go_enter Try.func86, Try.ntmps86
  go_wp2
  go_ret
  exact ⟨by simp, rfl⟩

/-- a list of bytes as a slice in memory -/
structure Hd where
  A : Option Addr
  n : Nat
  c : Nat
  l : List UInt8
abbrev hdCells (h : Hd) : List Value := [.slice h.A h.n h.c]
def HdOk (w : World) (h : Hd) : Prop := By w h.A h.n h.l ∧ BT w h.A h.n ∧ (h.A = none → h.n = 0) ∧ h.n ≤ 4096 ∧ h.n ≤ h.c

/-- what is no block of bytes may turn -/
def noB (w : World) (k : Nat) : Prop := ∀ c fr, w.heap[k]? ≠ some (.cells c 5 fr)
theorem HdOk.fr {S : Nat → Prop} {w w' : World} {h : Hd} (ho : HdOk w h) (hf : Fr S w w') (hS : ∀ k, S k → noB w k) : HdOk w' h := by
  obtain ⟨h1, h2, h3⟩ := ho
  refine ⟨hf.rd h1 (fun h0 a ha hs => ?_), fun h0 a ha => ?_, h3⟩
  · obtain ⟨cc, fr, e⟩ := h2 h0 a ha
    exact hS _ hs _ _ e
  · obtain ⟨cc, fr, e⟩ := h2 h0 a ha
    exact ⟨cc, fr, (hf.block _ (Array.getElem?_eq_some_iff.1 e).1 (fun hs => hS _ hs _ _ e)).trans e⟩

theorem fr_putObj (W : World) (l : Nat) (o : Obj) : Fr (· = l) W (W.putObj l o) := Fr.of_grown (grownBy_putObj' W l o) (fun g hg => by cases hg; rfl)

/-- how a round of the loop over the boxes ends -/
def boxPost (I : List (List UInt8) → World → Prop) (xs : List (List UInt8)) (W : World) : Exit → Act → World → Prop
  | .normal, _, W' => KeepsOthers W W' ∧ I xs W'
  | _, _, _ => False

/-- A RANGE OVER THE BOXES OF SOME BYTES, whose body never leaves. -/
theorem wpIn_range_boxes {g : Operand} {ps : Array Tmp} {assign body : Code} {Q : Exit → Act → World → Prop} {a : Act} {w : World} (V m : Nat) (A : Option Addr) (n c : Nat) (bs : List UInt8)
    (hg : a.eval g = .func (.func 109) #[] #[.pointer (some ⟨V, 0, none⟩)]) (hps : ps.size = 2) (hn : n ≤ 100000000) (hcap : n ≤ c) (hl : bs.length = n)
    (I : List (List UInt8) → World → Prop) (hI : OwnFrom w.heap.size I) (hIb : ∀ pre W W', I pre W → Below W.heap.size W W' → I pre W') (hIV : ∀ pre W, I pre W → W.cell? ⟨V, 0, none⟩ = some (.slice A n c) ∧ By W A n bs)
    (h0 : I [] w) (a₁ : Hd → Int → Act)
    (hassign : ∀ (l : Nat) (h : Hd) (next : Int) (W : World) (K : Act → World → Prop), K (a₁ h next) W →
      assign.wpIn (Fence.wide.inRound l) (m - 1) Try.prog (Exit.then K (fun _ _ _ => False)) { tmps := (ps.zip #[.slice h.A h.n h.c, .int .i64 next]).foldl (fun t (p, v) => t.setIfInBounds p v) a.tmps, defers := [] } W)
    (hbody : ∀ (l : Nat) (pre : List (List UInt8)) (h : Hd) (next : Int) (W : World), I pre W → pre.length ≤ 100000000 → HdOk W h → body.wpIn (Fence.wide.inRound l) (m - 1) Try.prog (boxPost I (pre ++ [h.l]) W) (a₁ h next) W)
    (hdone : ∀ (D : Nat) (W : World), w.heap.size ≤ D → I (validS bs) W → W.heap[D]? = some (.deferred (some [])) → Q .normal { a with defers := { target := .collected D, args := #[] } :: a.defers } W) :
    (Code.rangeFunc g ps assign body).wpIn Fence.wide (m + 1) Try.prog Q a w := by
  refine wpIn_rangeFunc ?_
  intro fn hfn
  obtain ⟨rec, hrec⟩ : ∃ rec : LoopState → Option Code → Loop, rec = fun st pe => { state := st, pending := pe, fn, tmps := a.tmps, params := ps, assign, body, defers := w.heap.size } := ⟨_, rfl⟩
  obtain ⟨W1, hW1⟩ : ∃ W1, (w.alloc (.deferred (some []))).alloc (.loop (rec .ready none)) = W1 := ⟨_, rfl⟩
  have hL1 : W1.heap[w.heap.size + 1]? = some (.loop (rec .ready none)) := by
    rw [← hW1]; have := World.alloc_heap_new (w.alloc (.deferred (some []))) (.loop (rec .ready none)); rwa [World.size_alloc] at this
  have hK1 : W1.heap[w.heap.size]? = some (.deferred (some [])) := by
    rw [← hW1]; exact (Below.heap_alloc _ _ _ (by simp)).trans (World.alloc_heap_new w _)
  have hI1 : I [] W1 := by rw [← hW1]; exact hI.alloc _ (hI.alloc _ h0)
  refine ⟨w.heap.size + 1, [{ target := .collected w.heap.size, args := #[] }], W1, { target := .fn (.func 109) #[.pointer (some ⟨V, 0, none⟩)], args := #[.func (.yield (w.heap.size + 1)) #[] #[]] }, W1, 109,
    #[.func (.yield (w.heap.size + 1)) #[] #[], .pointer (some ⟨V, 0, none⟩)], W1, ?_, ?_, fun _ _ => trivial, ?_, fun h => absurd h (by decide), ?_⟩
  · rw [← hW1, hrec]; exact run_enterLoop_outer _ _ _ _ _
  · simp only [resolve, hg]
    simp [go_sem]
  · have eg := enters_of Try.func109 (by kernel_rfl) rfl
    simp [invoke, go_sem, eg]
  · refine (boxes1_in (w.heap.size + 1) V m A n c bs (fun pre W => I pre W ∧ W.heap[w.heap.size + 1]? = some (.loop (rec .ready none)) ∧ W.heap[w.heap.size]? = some (.deferred (some [])))
      (fun pre W W' h hb => ⟨hIb pre W W' h.1 hb, (hb.block _ (Array.getElem?_eq_some_iff.1 h.2.1).1).trans h.2.1, (hb.block _ (Array.getElem?_eq_some_iff.1 h.2.2).1).trans h.2.2⟩)
      (fun pre W h => hIV pre W h.1) ?_ W1 hn hcap hl ⟨hI1, hL1, hK1⟩).mono ?_
    · rintro pre A3 n3 c3 next bd W ⟨hi, hlp, hk⟩ hlen3 hby3 hnil3 hn3 hc3 hbt3
      have hlt : w.heap.size + 1 < W.heap.size := (Array.getElem?_eq_some_iff.1 hlp).1
      have hy := run_yield (P := Try.prog) (args := #[.slice A3 n3 c3, .int .i64 next]) hlp (by rw [hrec]; exact hps.symm)
      rw [hrec] at hy
      refine ⟨fn, _, assign, body, hy, roundIn_of_wpIn hfn (hassign _ ⟨A3, n3, c3, bd⟩ next W _ ⟨_, run_beginRound hlp (by rw [hrec]), ?_⟩)⟩
      have hl2 : (W.putObj (w.heap.size + 1) (.loop { rec .ready none with state := .busy })).heap[w.heap.size + 1]? = some (.loop { rec .ready none with state := .busy }) := World.putObj_heap_same hlt
      have hk2 : (W.putObj (w.heap.size + 1) (.loop { rec .ready none with state := .busy })).heap[w.heap.size]? = some (.deferred (some [])) := (World.putObj_heap_other (by omega)).trans hk
      have hok : HdOk (W.putObj (w.heap.size + 1) (.loop { rec .ready none with state := .busy })) ⟨A3, n3, c3, bd⟩ :=
        HdOk.fr (w := W) ⟨hby3, hbt3, hnil3, hn3, hc3⟩ (fr_putObj _ _ _) (fun k e cc fr h => by subst e; rw [hlp] at h; cases h)
      refine wpIn_mono (hbody _ pre ⟨A3, n3, c3, bd⟩ next _ (hI.putObj _ hi (by omega) hlp rfl) hlen3 hok) ?_
      rintro e a3 W3 hp
      cases e with
      | normal =>
        obtain ⟨hk3, hi3⟩ := hp
        have hl3 := hk3.same _ _ hl2 rfl
        have hr := run_endRound (P := Try.prog) none hl3
        rw [hrec] at hr
        refine ⟨_, _, hr, rfl, hI.putObj _ hi3 (by omega) hl3 rfl, ?_, (World.putObj_heap_other (by omega)).trans (hk3.same _ _ hk2 rfl)⟩
        rw [hrec]
        exact World.putObj_heap_same (Array.getElem?_eq_some_iff.1 hl3).1
      | ret => exact hp.elim
      | exit id => exact hp.elim
      | goto t => exact hp.elim
      | panic ch => exact hp.elim
      | outgrown => exact hp.elim
    · rintro e W2 ⟨rfl, hi, hlp, hk⟩
      exact ⟨none, _, by have := run_endLoop (P := Try.prog) hlp (by rw [hrec]; simp); rw [hrec] at this; exact this, hdone _ _ (Nat.le_refl _) (hI.putObj _ hi (by omega) hlp rfl) ((World.putObj_heap_other (by omega)).trans hk)⟩

def ValidR (bs : List UInt8) (w : World) (e : Ending) (w' : World) : Prop :=
  ∃ (A : Option Addr) (n c : Nat) (hs : List Hd) (p : Int), e = .returned (.tuple #[.slice A n c, .int .i64 p]) ∧ Rows 1 hdCells w' A n hs ∧ (∀ h ∈ hs, HdOk w' h) ∧ hs.map (·.l) = validS bs ∧ (0 < n → ∀ a, A = some a → w.heap.size ≤ a.block) ∧ Below w.heap.size w w'

/-- what the loop over the boxes keeps -/
def VI (w : World) (bs : List UInt8) (A : Option Addr) (n c : Nat) (pre : List (List UInt8)) (W : World) : Prop :=
  (∃ (v : Value) (hs : List Hd) (pl : Int), Boxed W w.heap.size 34 v ∧ Boxed W (w.heap.size + 1) 3 (.int .i64 pl) ∧ Boxed W (w.heap.size + 2) 32 (.slice A n c) ∧
    W.ownsRow (w.heap.size + 3) 32 1 v hs.length (hs.flatMap hdCells) ∧ hs.map (·.l) = pre ∧ ∀ h ∈ hs, HdOk W h) ∧ By W A n bs ∧ Below w.heap.size w W

theorem VI.fr {w : World} {bs : List UInt8} {A : Option Addr} {n c : Nat} {pre : List (List UInt8)} {W W' : World} {S : Nat → Prop} (h : VI w bs A n c pre W) (hby : By w A n bs) (hf : Fr S W W')
    (hS : ∀ k, S k → w.heap.size + 3 ≤ k ∧ ∀ cs t fr, W.heap[k]? ≠ some (.cells cs t fr)) : VI w bs A n c pre W' := by
  obtain ⟨⟨v, hs, pl, b1, b2, b3, hrow, hm, hok⟩, _, hB⟩ := h
  have hB' : Below w.heap.size w W' := hB.trans (hf.below_of hB.size (fun k hk e => by have := (hS k e).1; omega))
  have box : ∀ {B : Nat} {t : TypeId} {u : Value}, B < w.heap.size + 3 → Boxed W B t u → Boxed W' B t u := fun hlt hb => (hf.block _ hb.lt (fun e => by have := (hS _ e).1; omega)).trans hb
  refine ⟨⟨v, hs, pl, box (by omega) b1, box (by omega) b2, box (by omega) b3, hf.own hrow (fun g hg e => ?_), hm, fun h hh => (hok h hh).fr hf (fun k e cc fr => (hS k e).2 _ _ _)⟩, Rd.below hby hB', hB'⟩
  rcases hrow.2 with ⟨rfl, _⟩ | ⟨g', cap, cur, rfl, _, hg', _⟩
  · cases hg
  · cases hg
    exact (hS _ e).2 _ _ _ hg'

theorem info_by : (Try.prog.info? 32).map (fun i => (i.zero, i.size, i.bytes)) = some (some (.slice none 0 0), 1, 24) := by kernel_rfl

set_option maxHeartbeats 1000000 in
set_option maxRecDepth 100000 in
theorem Valid_any (A : Option Addr) (n c : Nat) (bs : List UInt8) (w : World) (hby : By w A n bs) (hn : n ≤ 100000000) (hcap : n ≤ c) :
    Calls Try.prog 52 #[.slice A n c] w (ValidR bs w) := by
  have hl : bs.length = n := by simpa using hby.1
  have HBY := Lib.hid hby
  have HL := Lib.hid hl
  clear hby hl
  refine (callsIn_wide (n := 5)).1 ?_
  refine callsIn_of_wp_marks Try.func52 rfl trivial ?_ rfl
  simp only [Try.ntmps52, List.size_toArray, List.length_cons, List.length_nil, Nat.reduceAdd, Nat.reduceSub, Array.replicate_succ, Array.replicate_zero, List.push_toArray, List.append_toArray, List.nil_append, List.cons_append]
  gi_wp2_with (refine ⟨trivial, ?_⟩; gi_at_call 86; refine (callsIn_wide.2 (boxes_any A n c _)).mono ?_; rintro e w1 ⟨rfl, rfl⟩)
  have hB0 : Below w.heap.size w (((w.alloc (.cells #[.slice none 0 0] 34)).alloc (.cells #[.int .i64 0] 3)).alloc (.cells #[.slice A n c] 32)) := (((Below.refl _ w).alloc (Nat.le_refl _) _).alloc (by simp) _).alloc (by simp; omega) _
  have bL := ((Boxed.new w 34 (.slice none 0 0)).alloc (.cells #[.int .i64 0] 3)).alloc (.cells #[.slice A n c] 32)
  have bP := (Boxed.new (w.alloc (.cells #[.slice none 0 0] 34)) 3 (.int .i64 0)).alloc (.cells #[.slice A n c] 32)
  have bV := Boxed.new ((w.alloc (.cells #[.slice none 0 0] 34)).alloc (.cells #[.int .i64 0] 3)) 32 (.slice A n c)
  simp only [World.size_alloc] at bP bV
  refine wpIn_range_boxes (w.heap.size + 1 + 1) 4 A n c bs rfl rfl hn hcap HL.out (VI w bs A n c)
    (fun pre W W' row h hg hr => h.fr HBY.out (Fr.of_grown (S := fun k => row = some k) hg (fun g e => e)) (fun k e => ⟨by have := (hr k e).1; simpa using this, fun cs t fr h => by obtain ⟨_, o, ho, hc⟩ := hr k e; rw [h] at ho; cases ho; cases hc⟩))
    (fun pre W W' h hb => h.fr HBY.out (Fr.of_below (S := fun _ => False) hb) (fun k e => e.elim))
    (fun pre W h => by obtain ⟨⟨v, hs, pl, b1, b2, b3, _⟩, hby, _⟩ := h; exact ⟨b3.cell, hby⟩)
    ⟨⟨_, [], _, bL, bP, bV, World.ownsRow_nil _ _ _ _, rfl, fun h hh => absurd hh List.not_mem_nil⟩, Rd.below HBY.out hB0, hB0⟩
    (fun h next => { tmps := #[.slice A n c, undef, .slice none 0 0, .int .i64 0, .pointer (some ⟨w.heap.size, 0, none⟩), .pointer (some ⟨w.heap.size + 1, 0, none⟩), .slice h.A h.n h.c, .int .i64 next, .slice A n c,
      .func (.func 109) #[] #[.pointer (some ⟨w.heap.size + 1 + 1, 0, none⟩)], .slice h.A h.n h.c, .int .i64 next, undef, undef, undef, undef, undef, undef, undef], defers := [] }) ?assign ?body ?done
  case assign =>
    intro l h next W K hK
    gi_wp2
    exact hK
  case body =>
    rintro l pre h next W ⟨⟨v, hs, pl, b1, b2, b3, hrow, hm, hok⟩, hby, hB⟩ hlen hh
    obtain ⟨i0, hi, hz0, hz1, hz2⟩ := info_parts info_by
    have hc := b1.cell
    have hsl : hs.length ≤ 100000000 := by rw [← hm] at hlen; simpa using hlen
    have hne : ∀ B, B < w.heap.size + 3 → some B ≠ v.ownBlock := fun B hB e => by have := (hrow.lt B e.symm).1; omega
    have HOK := Lib.hid hok
    have HH := Lib.hid hh
    have HM := Lib.hid hm
    have HROW := Lib.hid hrow
    have HBYW := Lib.hid hby
    clear hok hh hm hby hrow
    gi_wp2_with (gi_at_builtin; refine wpListIn_append_own _ rfl _ _ 34 rfl (w.heap.size + 3) 32 i0 (.slice none 0 0) 1 24 Try.underlying34 hi hz0 hz1 hz2 rfl (by decide) _ _ _ rfl (HROW.out.alloc _) ⟨W.heap.size, 0, none⟩ 1 1 [.slice h.A h.n h.c] rfl rfl (cell_one_new _ _ _) (by simp [Value.oneCell']) (by unfold maxLen; omega) (by omega) (by have := b3.lt; simp; omega) ?_; intro v' w1 hown' hgrow hnil'; clear hnil'; obtain ⟨g', cap', rfl⟩ := ownsRow_succ hown'; have hb1 := (b1.alloc (.cells #[.slice h.A h.n h.c] 32)).kept hgrow (hne _ (by omega)); have hb2 := (b2.alloc (.cells #[.slice h.A h.n h.c] 32)).kept hgrow (hne _ (by omega)); have hc1 := hb1.cell; have hf1 := hb1.frozen; have hc2 := hb2.cell; have hf2 := hb2.frozen; have HG := Lib.hid hgrow; have HO := Lib.hid hown'; clear hgrow hown')
    have hrowc : ∀ g, v.ownBlock = some g → ∃ cur, W.heap[g]? = some (.cells cur 32 (0, 0)) := fun g e => by
      rcases HROW.out.2 with ⟨rfl, _⟩ | ⟨g1, cap1, cur, rfl, _, hg1, _⟩
      · cases e
      · cases e; exact ⟨cur, hg1⟩
    have hrowa : ∀ g, v.ownBlock = some g → ∃ cur, (W.alloc (.cells #[.slice h.A h.n h.c] 32)).heap[g]? = some (.cells cur 32 (0, 0)) := fun g e => by
      obtain ⟨cur, hg⟩ := hrowc g e
      exact ⟨cur, (Below.heap_alloc _ _ _ (Array.getElem?_eq_some_iff.1 hg).1).trans hg⟩
    have F0 : Fr (fun _ => False) W (W.alloc (.cells #[.slice h.A h.n h.c] 32)) := Fr.alloc _
    have F1 : Fr (fun k => v.ownBlock = some k) (W.alloc (.cells #[.slice h.A h.n h.c] 32)) w1 := Fr.of_grown HG.out (fun g e => e)
    have F2 : Fr (· = w.heap.size) w1 (w1.setCell ⟨w.heap.size, 0, none⟩ (.slice (some ⟨g', 0, none⟩) (hs.length + 1) cap')) := Fr.setCell (S := (· = w.heap.size)) (p := ⟨w.heap.size, 0, none⟩) (.inl rfl) _
    have hb2' := hb2.other (B' := w.heap.size) (by omega) (.slice (some ⟨g', 0, none⟩) (hs.length + 1) cap')
    have F3 : Fr (· = w.heap.size + 1) (w1.setCell ⟨w.heap.size, 0, none⟩ (.slice (some ⟨g', 0, none⟩) (hs.length + 1) cap')) ((w1.setCell ⟨w.heap.size, 0, none⟩ (.slice (some ⟨g', 0, none⟩) (hs.length + 1) cap')).setCell ⟨w.heap.size + 1, 0, none⟩ (.int .i64 next)) := Fr.setCell (S := (· = w.heap.size + 1)) (p := ⟨w.heap.size + 1, 0, none⟩) (.inl rfl) _
    have ok : ∀ x, HdOk W x → HdOk ((w1.setCell ⟨w.heap.size, 0, none⟩ (.slice (some ⟨g', 0, none⟩) (hs.length + 1) cap')).setCell ⟨w.heap.size + 1, 0, none⟩ (.int .i64 next)) x := fun x hx =>
      (((hx.fr F0 (fun k e => e.elim)).fr F1 (fun k e cc fr h' => by obtain ⟨cur, hg⟩ := hrowa k e; rw [hg] at h'; cases h')).fr F2 (fun k e cc fr h' => by subst e; rw [show w1.heap[w.heap.size]? = _ from hb1] at h'; cases h')).fr F3 (fun k e cc fr h' => by subst e; rw [show (w1.setCell ⟨w.heap.size, 0, none⟩ (.slice (some ⟨g', 0, none⟩) (hs.length + 1) cap')).heap[w.heap.size + 1]? = _ from hb2'] at h'; cases h')
    have hgl := HO.out.lt g' rfl
    have hBf : Below w.heap.size w ((w1.setCell ⟨w.heap.size, 0, none⟩ (.slice (some ⟨g', 0, none⟩) (hs.length + 1) cap')).setCell ⟨w.heap.size + 1, 0, none⟩ (.int .i64 next)) :=
      (((hB.alloc hB.size _).grown HG.out (by have := hB.size; simp; omega) (fun k e => by have := (HROW.out.lt k e).1; omega)).setCell (p := ⟨w.heap.size, 0, none⟩) (Nat.le_refl _) _).setCell (p := ⟨w.heap.size + 1, 0, none⟩) (by simp) _
    refine ⟨((((KeepsOthers.alloc W _).trans (KeepsOthers.of_grownBy HG.out (fun j o e ho => by obtain ⟨cur, hg⟩ := hrowa j e; rw [hg] at ho; cases ho; rfl))).trans (KeepsOthers.setCell _ _ _)).trans (KeepsOthers.setCell _ _ _)),
      ⟨_, hs ++ [h], next, (hb1.set _).other (by omega) _, hb2'.set _, (((b3.alloc _).kept HG.out (hne _ (by omega))).other (by omega) _).other (by omega) _, ?_, by rw [List.map_append, HM.out]; rfl, fun x hx => ?_⟩, Rd.below HBY.out hBf, hBf⟩
    · have := F3.own (F2.own HO.out (fun g e k => by cases e; simp at k; omega)) (fun g e k => by cases e; simp at k; omega)
      rw [List.length_append, List.flatMap_append]
      exact this
    · rcases List.mem_append.1 hx with hx | hx
      · exact ok x (HOK.out x hx)
      · obtain rfl := List.mem_singleton.1 hx
        exact ok _ HH.out
  case done =>
    rintro D W hD ⟨⟨v, hs, pl, b1, b2, b3, hrow, hm, hok⟩, hby, hB⟩ hK
    have hc1 := b1.cell
    have hc2 := b2.cell
    have HOK := Lib.hid hok
    have HM := Lib.hid hm
    have HROW := Lib.hid hrow
    clear hok hm hrow hby
    obtain ⟨A1, c1, rfl, _, _⟩ := own_slice HROW.out
    gi_wp2
    gi_region
    gi_wp2
    have hK' : W.drew.heap[D]? = some (.deferred (some [])) := hK
    have hD' : w.heap.size ≤ D := by simp at hD; omega
    refine ⟨by simp, .inl ⟨_, _, rfl, run_takeDeferred hK', ?_⟩⟩
    have F1 : Fr (fun _ => False) W W.drew := Fr.of_below (Below.drew (Below.refl _ _))
    have F2 : Fr (· = D) W.drew (W.drew.putObj D (.deferred none)) := fr_putObj _ _ _
    refine ⟨_, results_tmp2 rfl _ _ _, A1, hs.length, c1, hs, pl, by simp, Rows.of_rd (fun _ => rfl) rfl (own_rd ((F2.own (F1.own HROW.out (fun g e k => k)) (fun g e k => ?_)))), fun x hx => ((HOK.out x hx).fr F1 (fun k e => e.elim)).fr F2 (fun k e cc fr h' => by subst e; rw [hK'] at h'; cases h'), HM.out, fun h0 a ha => by subst ha; exact Nat.le_trans (by omega) (HROW.out.lt a.block rfl).1, (hB.trans (Below.drew (Below.refl _ _))).trans (F2.below_of (Nat.le_trans hB.size (Nat.le_refl _)) (fun k hk e => by omega))⟩
    rcases HROW.out.2 with ⟨h0, _⟩ | ⟨g1, cap1, cur, h0, _, hg1, _⟩
    · rw [h0] at e; cases e
    · rw [h0] at e
      cases e
      subst k
      rw [hK] at hg1
      cases hg1
end Go.Proofs.Ytblpnohfileibaa

/- seg.Records, walked. -/
namespace Go.Proofs.Ytblpnohfileibaa
open Go.RowKit

theorem info_rec : (Try.prog.info? 37).map (fun i => (i.zero, i.size, i.bytes)) = some (some (.agg #[.int .u64 0, .int .i64 0, .string ⟨#[]⟩, .int .u64 0, .int .u64 0, .int .u64 0]), 6, 56) := by kernel_rfl

/-- what came in: a slice of slices of bytes -/
def HdsOk (w : World) (A : Option Addr) (n : Nat) (hs : List Hd) : Prop := Rows 1 hdCells w A n hs ∧ ∀ h ∈ hs, By w h.A h.n h.l ∧ h.n ≤ 100000000 ∧ h.n ≤ h.c

theorem validF_len (l : List UInt8) : ∀ f p, (validF l f p).length ≤ f
  | 0, p => by simp [validF]
  | f + 1, p => by
    unfold validF
    cases nextS l p with
    | none => simp
    | some b => have := validF_len l f (p + (b.length + 6)); simp; omega
theorem validS_len (l : List UInt8) : (validS l).length ≤ l.length + 1 := validF_len l _ _

/-- bytes lie in no block of one cell that is none -/
theorem By.ne_bl {w : World} {A : Option Addr} {n : Nat} {l : List UInt8} {F : Nat} {v : Value} (h : By w A n l) (hF : Bl w F [v]) (hv : ∀ x, v ≠ bv x) (h0 : 0 < n) (a : Addr) (ha : A = some a) : a.block ≠ F := by
  obtain ⟨b, o, e, x, hx, hc⟩ := h.at_ h0
  subst ha
  cases e
  intro e
  subst e
  obtain ⟨t, hF⟩ := hF
  simp only [World.cell?, hF] at hc
  cases o with
  | zero => simp at hc; exact hv x hc
  | succ o => simp at hc

theorem HdOk.fr2 {w w' : World} {h : Hd} {F B : Nat} {b : Bool} {x : Int} (ho : HdOk w h) (hF : Bl w F [.bool b]) (hB : Bl w B [.int .u64 x]) (hf : Fr (fun k => k = F ∨ k = B) w w') : HdOk w' h := by
  obtain ⟨h1, h2, h3⟩ := ho
  have hne : 0 < h.n → ∀ a, h.A = some a → ¬ (a.block = F ∨ a.block = B) := fun h0 a ha e => by
    rcases e with e | e
    · exact h1.ne_bl hF (fun x hx => by cases hx) h0 a ha e
    · exact h1.ne_bl hB (fun x hx => by cases hx) h0 a ha e
  refine ⟨hf.rd h1 hne, fun h0 a ha => ?_, h3⟩
  obtain ⟨cc, fr, e⟩ := h2 h0 a ha
  exact ⟨cc, fr, (hf.block _ (Array.getElem?_eq_some_iff.1 e).1 (hne h0 a ha)).trans e⟩

theorem hd_ne_bl {w : World} {A : Option Addr} {n : Nat} {hs : List Hd} {F : Nat} {v : Value} (h : Rows 1 hdCells w A n hs) (hF : Bl w F [v]) (hv : ∀ A n c, v ≠ .slice A n c) (h0 : 0 < n) (a : Addr) (ha : A = some a) : a.block ≠ F := by
  obtain ⟨b, o, x, e, hx, hc⟩ := h.at_ h0
  have hc := hc 0 _ rfl
  subst ha
  cases e
  intro e
  subst e
  obtain ⟨t, hF⟩ := hF
  simp only [World.cell?, hF] at hc
  cases o with
  | zero => simp at hc; exact hv _ _ _ hc
  | succ o => simp at hc

/-- the state of the loops: what the taker knows, and the records so far -/
structure RS (w : World) (st : Bool × Nat) (v : Value) (pre : List Rec) (W : World) : Prop where
  f : Bl W (w.heap.size + 1) [.bool st.1]
  a : Bl W w.heap.size [.int .u64 st.2]
  row : W.ownsRow (w.heap.size + 2) 37 6 v pre.length (pre.flatMap recCells)
  b : Below w.heap.size w W

theorem RS.below {w W W' : World} {st : Bool × Nat} {v : Value} {pre : List Rec} (h : RS w st v pre W) (hb : Below W.heap.size W W') : RS w st v pre W' :=
  ⟨h.f.below hb, h.a.below hb, bel_own hb h.row, bel_trans h.b hb⟩
theorem RS.size {w W : World} {st : Bool × Nat} {v : Value} {pre : List Rec} (h : RS w st v pre W) : w.heap.size + 2 ≤ W.heap.size := by have := h.f.lt; omega
theorem RS.take {w W W' : World} {st st' : Bool × Nat} {v : Value} {pre : List Rec} (h : RS w st v pre W) (h1 : Bl W' (w.heap.size + 1) [.bool st'.1]) (h2 : Bl W' w.heap.size [.int .u64 st'.2]) (hf : Fr (fun k => k = w.heap.size + 1 ∨ k = w.heap.size) W W') : RS w st' v pre W' :=
  ⟨h1, h2, hf.own h.row (fun g hg e => by have := (h.row.lt g hg).1; omega), h.b.trans (hf.below_of h.b.size (fun k hk e => by omega))⟩
theorem RS.app {w W W' : World} {st : Bool × Nat} {v v' : Value} {pre : List Rec} {r : Rec} (h : RS w st v pre W) (hown : W'.ownsRow (w.heap.size + 2) 37 6 v' (pre.length + 1) (pre.flatMap recCells ++ recCells r)) (hg : W.grownBy W' v.ownBlock) : RS w st v' (pre ++ [r]) W' := by
  have hne : ∀ B, B < w.heap.size + 2 → ¬ v.ownBlock = some B := fun B hB e => by have := (h.row.lt B e).1; omega
  have hf : Fr (fun k => v.ownBlock = some k) W W' := Fr.of_grown hg (fun g e => e)
  refine ⟨h.f.fr hf (hne _ (by omega)), h.a.fr hf (hne _ (by omega)), ?_, h.b.trans (hf.below_of h.b.size (fun k hk e => hne k (by omega) e))⟩
  rw [List.length_append, List.flatMap_append, List.flatMap_singleton]
  exact hown

def RecsR (l : List (List UInt8)) (w : World) (e : Ending) (w' : World) : Prop :=
  ∃ A c, e = .returned (.slice A (segsS (true, 0) l).length c) ∧ Rows 6 recCells w' A (segsS (true, 0) l).length (segsS (true, 0) l) ∧ (segsS (true, 0) l).length ≤ c ∧ Below w.heap.size w w'

/-- the bodies that are still to come, in a world -/
structure BS (A : Option Addr) (n : Nat) (hs : List Hd) (v : Value) (W : World) : Prop where
  rows : Rows 1 hdCells W A n hs
  ok : ∀ h ∈ hs, HdOk W h
  ne : 0 < n → ∀ g, v.ownBlock = some g → ∀ a, A = some a → a.block ≠ g

theorem BS.below {A : Option Addr} {n : Nat} {hs : List Hd} {v : Value} {W W' : World} (h : BS A n hs v W) (hb : Below W.heap.size W W') : BS A n hs v W' :=
  ⟨h.rows.below hb, fun x hx => (h.ok x hx).fr (Fr.of_below (S := fun _ => False) hb) (fun _ e => e.elim), h.ne⟩
theorem rows_fr {k : Nat} {α : Type} {enc : α → List Value} {A : Option Addr} {n : Nat} {hs : List α} {W W' : World} {S : Nat → Prop} (h : Rows k enc W A n hs) (hf : Fr S W W') (hS : 0 < n → ∀ a, A = some a → ¬ S a.block) : Rows k enc W' A n hs :=
  Rows.of_rd h.2.1 h.1 (hf.rd h.rd hS)
theorem BS.take {A : Option Addr} {n : Nat} {hs : List Hd} {v : Value} {W W' : World} {F B : Nat} {b : Bool} {x : Int} (h : BS A n hs v W) (hF : Bl W F [.bool b]) (hB : Bl W B [.int .u64 x]) (hf : Fr (fun k => k = F ∨ k = B) W W') : BS A n hs v W' :=
  ⟨rows_fr h.rows hf (fun h0 a ha e => by
    rcases e with e | e
    · exact hd_ne_bl h.rows hF (fun _ _ _ e => by cases e) h0 a ha e
    · exact hd_ne_bl h.rows hB (fun _ _ _ e => by cases e) h0 a ha e), fun y hy => (h.ok y hy).fr2 hF hB hf, h.ne⟩
theorem BS.app {A : Option Addr} {n : Nat} {hs : List Hd} {v v' : Value} {W W' : World} {base m : Nat} {xs : List Value} (h : BS A n hs v W) (ho : W.ownsRow base 37 6 v m xs) (hg : W.grownBy W' v.ownBlock) (hl : v'.ownBlock = v.ownBlock ∨ v'.ownBlock = some W.heap.size) : BS A n hs v' W' := by
  have hf : Fr (fun k => v.ownBlock = some k) W W' := Fr.of_grown hg (fun g e => e)
  refine ⟨rows_fr h.rows hf (fun h0 a ha e => h.ne h0 _ e a ha rfl), fun y hy => (h.ok y hy).fr hf (fun k e cc fr h' => ?_), fun h0 g e a ha => ?_⟩
  · rcases ho.2 with ⟨h0, _⟩ | ⟨g, cap, cur, h0, _, hg', _⟩
    · rw [h0] at e; cases e
    · rw [h0] at e
      cases e
      rw [hg'] at h'
      cases h'
  · rcases hl with hl | hl
    · exact h.ne h0 g (hl ▸ e) a ha
    · rw [hl] at e
      cases e
      obtain ⟨b, o, x, e, _, hc⟩ := h.rows.at_ h0
      subst ha
      cases e
      have := cell_lt (hc 0 _ rfl)
      intro e
      simp at this e
      omega

theorem al2 (w : World) (a b : Obj) : Below w.heap.size w ((w.alloc a).alloc b) := ((Below.refl _ _).alloc (Nat.le_refl _) _).alloc (by simp) _
theorem rd_new2 (w : World) (o : Obj) (size n : Nat) (cs : Array Value) (e : TypeId) (h : cs.size = n * size) : Rd ((w.alloc o).alloc (.cells cs e)) size (some ⟨w.heap.size + 1, 0, none⟩) n cs.toList := by
  have := Rd.lit (w.alloc o) size n cs e h
  simpa using this

theorem body_step (st : Bool × Nat) (b : List UInt8) (bs : List (List UInt8)) : bodiesS st (b :: bs) = if (takeT st.1 st.2 b).2.1 = true then ((takeT st.1 st.2 b).1 :: (bodiesS (takeT st.1 st.2 b).2.2 bs).1, (bodiesS (takeT st.1 st.2 b).2.2 bs).2) else ([], (takeT st.1 st.2 b).2.2) := rfl

set_option maxHeartbeats 2000000 in
set_option maxRecDepth 100000 in
theorem Records_any (A : Option Addr) (n c : Nat) (hs : List Hd) (w : World) (h : HdsOk w A n hs) (hn : n ≤ 1000) :
    Calls Try.prog 19 #[.slice A n c] w (RecsR (hs.map (·.l)) w) := by
  obtain ⟨i0, hi, hz0, hz1, hz2⟩ := info_parts info_rec
  have hl : hs.length = n := h.1.1
  have HL := Lib.hid hl
  have HH := Lib.hid h
  clear h hl
  go_enter Try.func19, Try.ntmps19
  go_wp2_with (go_at_call 51; (with_reducible refine (taker_any _).mono ?_); rintro e w1 ⟨rfl, rfl⟩)
  go_loopw [3, 16] (fun v i wr => ∃ (vv : Value) (k : Nat) (st : Bool × Nat) (pre : List Rec), vv = v ∧ k ≤ n ∧ i = .int .i64 k ∧ RS w st v pre wr ∧ pre.length ≤ k * 100000001 ∧ segsS (true, 0) (hs.map (·.l)) = pre ++ segsS st ((hs.drop k).map (·.l))) (fun _ i _ => n - (intOf i).toNat)
  case atStart =>
    refine ⟨_, 0, (true, 0), [], rfl, Nat.zero_le _, rfl, ⟨?_, ?_, World.ownsRow_nil _ _ _ _, ((Below.refl _ _).alloc (Nat.le_refl _) _).alloc (by simp) _⟩, by simp, by simp⟩
    · have := Bl.new (w.alloc (.cells #[.int .u64 0] 22)) #[.bool true] 4
      simpa using this
    · exact (Bl.new w #[.int .u64 0] 22).below ((Below.refl _ _).alloc (Nat.le_refl _) _)
  case round =>
    obtain ⟨v, k, st, pre, rfl, hk, rfl, hrs, hpl, hseg⟩ := hrel
    have HRS := Lib.hid hrs
    have HSEG := Lib.hid hseg
    clear hrs hseg
    by_cases hlt : k < n
    · obtain ⟨b, o, hd, rfl, hgk, hc⟩ := (HH.out.1.below HRS.out.b).at_ hlt
      have hck := hc 0 _ rfl
      simp only [Nat.mul_one, Nat.add_zero] at hck
      obtain ⟨hby, hhn, hhc⟩ := HH.out.2 hd (List.mem_of_getElem? hgk)
      have hV := Valid_any hd.A hd.n hd.c hd.l wr (Rd.below hby HRS.out.b) hhn hhc
      have hvl := validS_len hd.l
      have hdl : hd.l.length = hd.n := by simpa using hby.1
      have hdrop : hs.drop k = hd :: hs.drop (k + 1) := by
        have := List.drop_eq_getElem_cons (l := hs) (i := k) (by rw [HL.out]; exact hlt)
        rw [this]
        congr 1
        rw [List.getElem?_eq_getElem (by rw [HL.out]; exact hlt)] at hgk
        exact Option.some.inj hgk
      have HSEG2 := Lib.hid (show segsS (true, 0) (hs.map (·.l)) = pre ++ ((bodiesS st (validS hd.l)).1 ++ segsS (bodiesS st (validS hd.l)).2 ((hs.drop (k + 1)).map (·.l))) by rw [HSEG.out, hdrop]; rfl)
      have HV := Lib.hid hV
      rw [hdl] at hvl
      clear hV hby hgk hdrop hdl HSEG hc
      go_wp2_with (go_at_call 52; (with_reducible refine HV.out.mono ?_); rintro e w1 ⟨A1, n1, c1, hs1, p1, rfl, hrows, hok, hmap, hnew, hb⟩)
      have hrl := hrows.1
      have hbs : BS A1 n1 hs1 v w1 := ⟨hrows, hok, fun h0 g e a ha => by have := hnew h0 a ha; have := (HRS.out.row.lt g e).2; omega⟩
      have hrs1 := HRS.out.below hb
      have hn1 : n1 ≤ hd.n + 1 := by rw [← hrl]; have := congrArg List.length hmap; simp at this; omega
      have HRS1 := Lib.hid hrs1
      have HBS1 := Lib.hid hbs
      have HMAP := Lib.hid hmap
      have HRL := Lib.hid hrl
      clear hrows hok hmap hnew hb hrl hbs hrs1 HRS HV
      go_loopw [3, 27] (fun v' i wi => ∃ (vv : Value) (j : Nat) (st' : Bool × Nat) (pre' : List Rec), vv = v' ∧ j ≤ n1 ∧ i = .int .i64 j ∧ RS w st' v' pre' wi ∧ BS A1 n1 hs1 v' wi ∧ pre'.length ≤ k * 100000001 + j ∧
        segsS (true, 0) (hs.map (·.l)) = pre' ++ ((bodiesS st' ((hs1.drop j).map (·.l))).1 ++ segsS (bodiesS st' ((hs1.drop j).map (·.l))).2 ((hs.drop (k + 1)).map (·.l)))) (fun _ i _ => n1 - (intOf i).toNat)
      case atStart => exact ⟨_, 0, st, pre, rfl, Nat.zero_le _, rfl, HRS1.out, HBS1.out, by rw [Nat.add_zero]; exact hpl, by rw [List.drop_zero, HMAP.out]; exact HSEG2.out⟩
      case round =>
        obtain ⟨v', j, st', pre', rfl, hj, rfl, hrs, hbs, hpl', hseg⟩ := hrel
        have HRS := Lib.hid hrs
        have HBS := Lib.hid hbs
        have HSEG := Lib.hid hseg
        clear hrs hbs hseg HRS1 HBS1
        by_cases hlt2 : j < n1
        · obtain ⟨b1, o1, x, rfl, hx, hc1⟩ := HBS.out.rows.at_ hlt2
          have hcx := hc1 0 _ rfl
          simp only [Nat.mul_one, Nat.add_zero] at hcx
          obtain ⟨hby, _, _, h4096, _⟩ := HBS.out.ok x (List.mem_of_getElem? hx)
          have hT := take_rec (w.heap.size + 1) w.heap.size st'.1 st'.2 x.A x.n x.c x.l wr HRS.out.f HRS.out.a (by omega) hby (by omega)
          have hdrop : hs1.drop j = x :: hs1.drop (j + 1) := by
            have := List.drop_eq_getElem_cons (l := hs1) (i := j) (by rw [HRL.out]; exact hlt2)
            rw [this]
            congr 1
            rw [List.getElem?_eq_getElem (by rw [HRL.out]; exact hlt2)] at hx
            exact Option.some.inj hx
          have hb := body_step st' x.l ((hs1.drop (j + 1)).map (·.l))
          have hseg2 := HSEG.out
          rw [hdrop, List.map_cons] at hseg2
          unfold TakR at hT
          generalize takeT st'.1 st'.2 x.l = q at hT hb
          obtain ⟨r, ok, f1, a1⟩ := q
          simp only at hT hb
          have HT := Lib.hid hT
          have HB := Lib.hid hb
          have HSEG2 := Lib.hid hseg2
          clear hT hb hseg2 hdrop hx hc1 hby HSEG
          cases ok with
          | false =>
            go_wp2_with (go_at_call 84; (with_reducible refine HT.out.mono ?_); rintro e w2 ⟨rfl, h1, h2, hf⟩; have HRS2 := Lib.hid (HRS.out.take (st' := (f1, a1)) h1 h2 hf); clear h1 h2 hf)
            go_roundw
            case rel =>
              refine ⟨_, k + 1, (f1, a1), pre', rfl, by omega, by go_num, HRS2.out.below ((Below.refl _ _).alloc (Nat.le_refl _) _), by omega, ?_⟩
              rw [HSEG2.out, HB.out]
              rfl
            case measure => simp [intOf]; omega
          | true =>
            go_wp2_with (first
              | (go_at_call 84; (with_reducible refine HT.out.mono ?_); rintro e w2 ⟨rfl, h1, h2, hf⟩; have HRS2 := Lib.hid (HRS.out.take (st' := (f1, a1)) h1 h2 hf); have HBS2 := Lib.hid (HBS.out.take HRS.out.f HRS.out.a hf); clear h1 h2 hf)
              | (at_builtin; refine wpList_append_rd _ rfl (.tmp 39) (.tmp 41) 31 rfl (w.heap.size + 2) 37 i0 _ 6 56 Try.underlying31 hi hz0 hz1 hz2 rfl (by decide) v' pre'.length (pre'.flatMap recCells) rfl (HRS2.out.below (al2 _ _ _)).row (some ⟨w2.heap.size + 1, 0, none⟩) 1 1 (recCells r) rfl (rd_new2 _ _ _ _ _ _ rfl) (recCells_one r) (by unfold maxLen; omega) (by omega) (by have := HRS2.out.size; simp; omega) ?_; intro A9 c9 w9 hown hg hblk; have HRS9 := Lib.hid ((HRS2.out.below (al2 _ _ _)).app hown hg); have HBS9 := Lib.hid ((HBS2.out.below (al2 _ _ _)).app (HRS2.out.below (al2 _ _ _)).row hg hblk); clear hown hg hblk))
            go_roundw
            case rel =>
              refine ⟨_, j + 1, (f1, a1), pre' ++ [r], rfl, by omega, by go_num, HRS9.out, HBS9.out, by simp; omega, ?_⟩
              rw [HSEG2.out, HB.out]
              simp
            case measure => simp [intOf]; omega
        · have hj1 : j = n1 := by omega
          have hd0 : hs1.drop j = [] := List.drop_eq_nil_of_le (by rw [HRL.out]; omega)
          have hseg2 := HSEG.out
          rw [hd0] at hseg2
          have HSEG2 := Lib.hid hseg2
          clear hj1 hd0 hseg2 HSEG
          go_wp2
          go_roundw
          case rel =>
            refine ⟨_, k + 1, st', pre', rfl, by omega, by go_num, HRS.out, by omega, ?_⟩
            rw [HSEG2.out]
            rfl
          case measure => simp [intOf]; omega
    · have hd0 : hs.drop k = [] := List.drop_eq_nil_of_le (by rw [HL.out]; omega)
      have hseg2 := HSEG.out
      rw [hd0] at hseg2
      have HSEG2 := Lib.hid hseg2
      clear hd0 hseg2 HSEG
      obtain ⟨A9, c9, rfl, hc9, _⟩ := own_slice HRS.out.row
      go_wp2
      go_ret
      have e : segsS (true, 0) (hs.map (·.l)) = pre := by rw [HSEG2.out]; simp [segsS]
      unfold RecsR
      rw [e]
      exact ⟨A9, c9, by simp, Rows.of_rd (fun _ => rfl) rfl (own_rd HRS.out.row), hc9, HRS.out.b⟩
end Go.Proofs.Ytblpnohfileibaa

/- Arguments that came in, opened: slices of bytes and of numbers, as the walks read them. -/
namespace Go.Proofs.Ytblpnohfileibaa
open Go.RowKit Go.ChangeShapes Go.WideShapes

section
variable {H : Type} {enc : TypeId × Value → H} {P : Program} {w : World} {base : Nat} {spare : Nat → Bool} {held : Bool}

theorem u8_back {z : Int} (h : (Lit.int .u8 z).wf = true) : Value.int .u8 z = bv (UInt8.ofNat z.toNat) := by
  have hx : 0 ≤ z ∧ z ≤ 255 := by simpa [Lit.wf, IntKind.min, IntKind.max, IntKind.signed, IntKind.bits] using h
  unfold bv
  congr 1
  simp [UInt8.toNat_ofNat']
  omega

theorem rd_of_cells {k : IntKind} {a : Addr} {len : Nat} {zs : List Int} (hl : len ≤ zs.length) (hc : ∀ i, i < zs.length → w.cell? (a.add i) = some (.int k (zs.getD i 0))) :
    Rd w 1 (some a) len ((zs.take len).map (Value.int k)) := by
  refine ⟨by rw [List.length_map, List.length_take]; omega, fun hn => ?_⟩
  obtain ⟨b, o, spot⟩ := a
  have h0 := hc 0 (by omega)
  have hspot : spot = none := by simpa [Addr.add] using World.cell?_spot h0
  subst hspot
  refine ⟨b, o, rfl, fun j u hu => ?_⟩
  have hj : j < len := by
    have := (List.getElem?_eq_some_iff.1 hu).1
    rw [List.length_map, List.length_take] at this
    omega
  have := hc j (by omega)
  rw [add_plain] at this
  rw [this]
  rw [List.getElem?_map, List.getElem?_take, if_pos hj] at hu
  rw [List.getD_eq_getElem?_getD]
  cases hz : zs[j]? with
  | none => rw [hz] at hu; cases hu
  | some z => rw [hz] at hu; simpa using hu

theorem open_ints_rd {t e : TypeId} {k : IntKind} {fuel : Nat} {A : Option Addr} {n c : Nat} {x : DataW H × List MemPlace} (ht : P.underlying t = some (.slice e)) (he : P.underlying e = some (.int k)) (hc : P.cellsOf e = 1)
    (h : DataW.trod enc P w base spare held fuel t [.slice A n c] = some x) :
    ∃ zs : List Int, Rd w 1 A n (zs.map (Value.int k)) ∧ zs.length = n ∧ (∀ z ∈ zs, (Lit.int k z).wf = true) ∧ (A = none → n = 0) ∧ ∀ B, (∀ q ∈ x.1.weights P t, q ≤ B) → n * P.bytesOf e ≤ B := by
  rcases open_ints ht he hc h with ⟨hcs, rfl⟩ | ⟨a, len, cap, zs, hcs, _, hl, hm, hz, rfl, hcell, hwz⟩
  · simp only [List.cons.injEq, Value.slice.injEq, and_true] at hcs
    obtain ⟨rfl, rfl, rfl⟩ := hcs
    exact ⟨[], ⟨rfl, fun h => absurd h (Nat.lt_irrefl _)⟩, rfl, fun z hz => absurd hz List.not_mem_nil, fun _ => rfl, fun B _ => by omega⟩
  · simp only [List.cons.injEq, Value.slice.injEq, and_true] at hcs
    obtain ⟨rfl, rfl, rfl⟩ := hcs
    have hle : n ≤ zs.length := by rw [hz]; split <;> omega
    refine ⟨zs.take n, rd_of_cells hle hcell, by rw [List.length_take]; omega, fun z hz => hwz z (List.mem_of_mem_take hz), (fun h => by cases h), fun B hB => ?_⟩
    have := hB (((lits (H := H) k (zs.take n)).length + (lits (H := H) k (zs.drop n)).length) * P.bytesOf e) (by simp [DataW.weights, ht])
    refine Nat.le_trans (Nat.mul_le_mul_right _ ?_) this
    simp [lits]
    omega

theorem open_bytes_rd {t e : TypeId} {fuel : Nat} {A : Option Addr} {n c : Nat} {x : DataW H × List MemPlace} (ht : P.underlying t = some (.slice e)) (he : P.underlying e = some (.int .u8)) (hc : P.cellsOf e = 1)
    (h : DataW.trod enc P w base spare held fuel t [.slice A n c] = some x) :
    ∃ l : List UInt8, By w A n l ∧ (A = none → n = 0) ∧ ∀ B, (∀ q ∈ x.1.weights P t, q ≤ B) → n * P.bytesOf e ≤ B := by
  obtain ⟨zs, hr, _, hwf, hn, hB⟩ := open_ints_rd ht he hc h
  refine ⟨zs.map fun z => UInt8.ofNat z.toNat, ?_, hn, hB⟩
  unfold By
  rw [List.map_map]
  have : zs.map (Value.int .u8) = zs.map (bv ∘ fun z => UInt8.ofNat z.toNat) := List.map_congr_left fun z hz => u8_back (hwf z hz)
  rw [← this]
  exact hr
end
end Go.Proofs.Ytblpnohfileibaa

/- SegTorn: the references' contracts in the walks' words; what the law's first loop keeps. -/
namespace Go.Proofs.Ytblpnohfileibaa
open Go.RowKit
open Go.Proofs.YtblpnohfileibaaW.PrintWords (Kd Drawn0)

theorem by_of_kd {w : World} {base : Nat} {ok : Nat → Prop} {v : Value} {l : List UInt8} (h : Kd.R (Kd.int .u8) 5 w base ok v (ints l)) : ∃ A c, v = .slice A l.length c ∧ By w A l.length l := by
  obtain ⟨A, c, hv, hc, hr⟩ := Kd.R_reads h
  rw [ints_len] at hv hr
  refine ⟨A, c, hv, ?_⟩
  obtain ⟨h1, _, h3⟩ := hr
  refine ⟨by simp, fun h0 => ?_⟩
  obtain ⟨ad, rfl, hcell⟩ := h3 h0
  have hget : ∀ j x, l[j]? = some x → w.cell? (ad.add j) = some (bv x) := fun j x hx => by
    obtain ⟨cs, _, hk, hu⟩ := hcell j (x.toNat : Int) (by unfold ints; rw [List.getElem?_map, hx]; rfl)
    have hk' : cs = [.int .u8 (x.toNat : Int)] := hk
    subst hk'
    have hz : (Kd.int IntKind.u8).sz = 1 := rfl
    have := hu 0 _ rfl
    rw [hz, Nat.mul_one, Nat.add_zero] at this
    exact this
  obtain ⟨b, o, spot⟩ := ad
  have hx0 := hget 0 l[0] (List.getElem?_eq_getElem h0)
  have hspot : spot = none := by simpa [Addr.add] using World.cell?_spot hx0
  subst hspot
  refine ⟨b, o, rfl, fun j u hu => ?_⟩
  obtain ⟨x, hx, rfl⟩ := by simpa [List.getElem?_map] using hu
  rw [← addr_add]
  exact hget j x hx

theorem kd_of_rows {w : World} {A : Option Addr} {n : Nat} {rs : List Rec} (h : Rows 6 recCells w A n rs) (hn : n ≤ 140737488355328) : Kd.C PSegTorn.k37 w A n (rs.map toS) := by
  obtain ⟨h1, _, h3⟩ := h
  refine ⟨by simpa using h1, by omega, fun h0 => ?_⟩
  obtain ⟨b, o, rfl, hc⟩ := h3 h0
  refine ⟨_, rfl, fun j p hp => ?_⟩
  rw [List.getElem?_map] at hp
  cases hr : rs[j]? with
  | none => rw [hr] at hp; cases hp
  | some r =>
    rw [hr] at hp
    cases hp
    refine ⟨recCells r, rfl, PSegTorn.k37_mk w (toS r), fun i u hu => ?_⟩
    have hz : PSegTorn.k37.sz = 6 := rfl
    rw [hz, addr_add]
    exact hc j r hr i u hu

theorem refCheck_any (r : Rec) (hok : RecOk r) (w : World) : Calls Try.prog 16 #[recV r] w fun e w' => e = .returned (.int .i64 (checkR r)) ∧ Below w.heap.size w w' :=
  PSegTorn.taximeterref11_Check.calls 300 _ _ _ _ _ _ _ w (refCheck r hok 300 (Nat.le_refl _))

def BoxR (r : Rec) (w : World) (e : Ending) (w' : World) : Prop := ∃ A c, e = .returned (.slice A (boxR r).length c) ∧ By w' A (boxR r).length (boxR r) ∧ Below w.heap.size w w'
theorem refBox_any (r : Rec) (h : checkR r = 0) (hok : RecOk r) (w : World) : Calls Try.prog 17 #[recV r] w (BoxR r w) :=
  (PSegTorn.taximeterref13_Box.calls 601 _ _ _ _ _ _ _ w (refBoxR r h hok 601 (by omega))).mono fun e w' ⟨v, he, hr, hb⟩ => by
    obtain ⟨A, c, rfl, hby⟩ := by_of_kd hr
    exact ⟨A, c, he, hby, hb⟩

theorem refLarge_any (A : Option Addr) (n c : Nat) (rs : List Rec) (w : World) (h : Rows 6 recCells w A n rs) (hn : n ≤ 140737488355328) (hc : n ≤ c) :
    Calls Try.prog 15 #[.slice A n c] w fun e w' => ∃ b : Bool, e = .returned (.bool b) ∧ (b = false → n ≤ 60 ∧ ∀ r ∈ rs, r.tenant.size ≤ 100) ∧ Below w.heap.size w w' := by
  have hl : rs.length = n := h.1
  obtain ⟨b, hb, hf⟩ := refLarge rs (by omega)
  have hk := kd_of_rows h hn
  subst hl
  have hm : (rs.map toS).length = rs.length := by simp
  have := PSegTorn.taximeterref11_Large.calls 200 A c (rs.map toS) b w (by rw [hm]; exact hk) (by rw [hm]; exact hc) hb
  rw [hm] at this
  exact this.mono fun e w' ⟨he, hd⟩ => ⟨b, he, hf, by obtain ⟨m, rfl⟩ := hd.out; exact below_drewN bel_rfl m⟩

theorem refSame_any (A A' : Option Addr) (n c c' : Nat) (rs : List Rec) (w : World) (h : Rows 6 recCells w A n rs) (h' : Rows 6 recCells w A' n rs) (hn : n ≤ 100000) (hc : n ≤ c) (hc' : n ≤ c') :
    Calls Try.prog 18 #[.slice A n c, .slice A' n c'] w fun e w' => e = .returned (.bool true) ∧ Below w.heap.size w w' := by
  have hl : rs.length = n := h.1
  have hk := kd_of_rows h (by omega)
  have hk' := kd_of_rows h' (by omega)
  subst hl
  have hm : (rs.map toS).length = rs.length := by simp
  have := PSegTorn.taximeterref11_Same.calls (rs.length + 1) A c (rs.map toS) A' c' (rs.map toS) true w (by rw [hm]; exact hk) (by rw [hm]; exact hc) (by rw [hm]; exact hk') (by rw [hm]; exact hc') (refSame rs (by omega) _ (by omega))
  rw [hm] at this
  exact this.mono fun e w' ⟨he, hd⟩ => ⟨he, by obtain ⟨m, rfl⟩ := hd.out; exact below_drewN bel_rfl m⟩

/-- what the first loop of the law has in memory: segments, and the last one -/
structure TS (w : World) (sv lv : Value) (hs : List Hd) (lb : List UInt8) (W : World) : Prop where
  s : W.ownsRow w.heap.size 32 1 sv hs.length (hs.flatMap hdCells)
  l : W.ownsRow w.heap.size 5 1 lv lb.length (lb.map bv)
  ok : ∀ h ∈ hs, By W h.A h.n h.l ∧ BT W h.A h.n ∧ h.n ≤ 100000 ∧ h.n ≤ h.c
  ne : ∀ h ∈ hs, 0 < h.n → ∀ a, h.A = some a → lv.ownBlock ≠ some a.block
  b : Below w.heap.size w W

theorem own_ty {w : World} {base : Nat} {e : TypeId} {size : Nat} {v : Value} {n : Nat} {xs : List Value} (h : w.ownsRow base e size v n xs) {g : Nat} (hg : v.ownBlock = some g) : ∃ cur, w.heap[g]? = some (.cells cur e (0, 0)) := by
  rcases h.2 with ⟨rfl, _⟩ | ⟨g', cap, cur, rfl, _, hg', _⟩
  · cases hg
  · cases hg; exact ⟨cur, hg'⟩
theorem TS.apart {w W : World} {sv lv : Value} {hs : List Hd} {lb : List UInt8} (h : TS w sv lv hs lb W) {g : Nat} (hs' : sv.ownBlock = some g) (hl : lv.ownBlock = some g) : False := by
  obtain ⟨c1, h1⟩ := own_ty h.s hs'
  obtain ⟨c2, h2⟩ := own_ty h.l hl
  rw [h1] at h2
  cases h2
theorem TS.below {w W W' : World} {sv lv : Value} {hs : List Hd} {lb : List UInt8} (h : TS w sv lv hs lb W) (hb : Below W.heap.size W W') : TS w sv lv hs lb W' :=
  ⟨bel_own hb h.s, bel_own hb h.l, fun x hx => ⟨Rd.below (h.ok x hx).1 hb, (h.ok x hx).2.1.below hb, (h.ok x hx).2.2⟩, h.ne, bel_trans h.b hb⟩
theorem TS.start (w : World) : TS w (.slice none 0 0) (.slice none 0 0) [] [] w :=
  ⟨World.ownsRow_nil _ _ _ _, World.ownsRow_nil _ _ _ _, fun x hx => absurd hx List.not_mem_nil, fun x hx => absurd hx List.not_mem_nil, bel_rfl⟩

/-- the last segment, or a beginning of it, is put behind the segments -/
theorem TS.push {w W W' : World} {sv sv' : Value} {A : Option Addr} {n c m : Nat} {hs : List Hd} {lb : List UInt8} (h : TS w sv (.slice A n c) hs lb W) (hm : m ≤ n) (hn : n ≤ 100000)
    (ho : W'.ownsRow w.heap.size 32 1 sv' (hs.length + 1) (hs.flatMap hdCells ++ [.slice A m c])) (hg : W.grownBy W' sv.ownBlock) :
    TS w sv' (.slice none 0 0) (hs ++ [⟨A, m, c, lb.take m⟩]) [] W' := by
  have hf : Fr (fun k => sv.ownBlock = some k) W W' := Fr.of_grown hg (fun g e => e)
  have hnot : ∀ {A : Option Addr} {n : Nat}, BT W A n → 0 < n → ∀ a, A = some a → ¬ sv.ownBlock = some a.block := fun hbt h0 a ha e => by
    obtain ⟨c1, h1⟩ := own_ty h.s e
    obtain ⟨c2, fr, h2⟩ := hbt h0 a ha
    rw [h1] at h2
    cases h2
  have keep : ∀ x : Hd, By W x.A x.n x.l ∧ BT W x.A x.n ∧ x.n ≤ 100000 ∧ x.n ≤ x.c → By W' x.A x.n x.l ∧ BT W' x.A x.n ∧ x.n ≤ 100000 ∧ x.n ≤ x.c := fun x ⟨h1, h2, h3⟩ =>
    ⟨hf.rd h1 (hnot h2), fun h0 a ha => by
      obtain ⟨c2, fr, e⟩ := h2 h0 a ha
      exact ⟨c2, fr, (hf.block _ (Array.getElem?_eq_some_iff.1 e).1 (hnot h2 h0 a ha)).trans e⟩, h3⟩
  have hl0 := h.l
  obtain ⟨A1, c1, e1, hc1, _⟩ := own_slice h.l
  injection e1 with e1 e2 e3
  have hlb : lb.length = n := by omega
  rw [hlb] at hl0
  have hby : By W A n lb := own_by hl0
  have hbt : BT W A n := own_bt hl0
  refine ⟨?_, World.ownsRow_nil _ _ _ _, fun x hx => ?_, (fun x hx h0 a ha e => by cases e), h.b.trans (hf.below_of h.b.size (fun k hk e => by have := (h.s.lt k e).1; omega))⟩
  · rw [List.length_append, List.flatMap_append]
    exact ho
  · rcases List.mem_append.1 hx with hx | hx
    · exact keep x (h.ok x hx)
    · obtain rfl := List.mem_singleton.1 hx
      exact keep _ ⟨hby.upto_ hm, fun h0 a ha => hbt (Nat.lt_of_lt_of_le h0 hm) a ha, by simp only; omega, by simp only; omega⟩

/-- a box is put behind the last segment -/
theorem TS.add {w W W' : World} {sv lv lv' : Value} {hs : List Hd} {lb bx : List UInt8} (h : TS w sv lv hs lb W)
    (ho : W'.ownsRow w.heap.size 5 1 lv' (lb.length + bx.length) (lb.map bv ++ bx.map bv)) (hg : W.grownBy W' lv.ownBlock) (hl : lv'.ownBlock = lv.ownBlock ∨ lv'.ownBlock = some W.heap.size) :
    TS w sv lv' hs (lb ++ bx) W' := by
  have hf : Fr (fun k => lv.ownBlock = some k) W W' := Fr.of_grown hg (fun g e => e)
  refine ⟨hf.own h.s (fun g e k => h.apart e k), by rw [List.length_append, List.map_append]; exact ho, fun x hx => ?_, fun x hx h0 a ha e => ?_, h.b.trans (hf.below_of h.b.size (fun k hk e => by have := (h.l.lt k e).1; omega))⟩
  · obtain ⟨h1, h2, h3⟩ := h.ok x hx
    have hnot : 0 < x.n → ∀ a, x.A = some a → ¬ lv.ownBlock = some a.block := fun h0 a ha => h.ne x hx h0 a ha
    refine ⟨hf.rd h1 hnot, fun h0 a ha => ?_, h3⟩
    obtain ⟨c2, fr, e⟩ := h2 h0 a ha
    exact ⟨c2, fr, (hf.block _ (Array.getElem?_eq_some_iff.1 e).1 (hnot h0 a ha)).trans e⟩
  · rcases hl with hl | hl
    · exact h.ne x hx h0 a ha (hl ▸ e)
    · rw [hl] at e
      obtain ⟨c2, fr, e2⟩ := (h.ok x hx).2.1 h0 a ha
      have := (Array.getElem?_eq_some_iff.1 e2).1
      injection e with e
      omega

/-- the plain state of the first loop -/
structure TP (rs : List Rec) (k : Nat) (segs : List (List Rec)) (last : List Rec) : Prop where
  cat : segs.flatten ++ last = rs.take k
  chk : ∀ j r, j < k → rs[j]? = some r → checkR r = 0
  seq : ∀ j a b, j + 1 < k → rs[j]? = some a → rs[j + 1]? = some b → b.seq = (a.seq + 1) % 18446744073709551616
theorem TP.len {rs : List Rec} {k : Nat} {segs : List (List Rec)} {last : List Rec} (h : TP rs k segs last) (hk : k ≤ rs.length) : segs.flatten.length + last.length = k := by
  have := congrArg List.length h.cat
  rw [List.length_append, List.length_take] at this
  omega
theorem TP.last_chk {rs : List Rec} {k : Nat} {segs : List (List Rec)} {last : List Rec} (h : TP rs k segs last) : ∀ r ∈ last, checkR r = 0 := fun r hr => by
  have : r ∈ rs.take k := by rw [← h.cat]; exact List.mem_append_right _ hr
  obtain ⟨j, hj, rfl⟩ := List.mem_iff_getElem.1 this
  rw [List.length_take] at hj
  rw [List.getElem_take]
  exact h.chk j _ (by omega) (List.getElem?_eq_getElem (by omega))
theorem flat_len_le (l : List Rec) (h : ∀ r ∈ l, checkR r = 0) : (l.flatMap boxR).length ≤ 56 * l.length := by
  induction l with
  | nil => simp
  | cons r l ih =>
    have h1 := recB_len (h r (List.mem_cons_self ..))
    have h2 := ih (fun x hx => h x (List.mem_cons_of_mem _ hx))
    simp only [List.flatMap_cons, List.length_append, List.length_cons, boxR, boxB_len] at h2 ⊢
    omega
theorem TP.step {rs : List Rec} {k : Nat} {segs : List (List Rec)} {last : List Rec} {r : Rec} (h : TP rs k segs last) (hr : rs[k]? = some r) (hc : checkR r = 0) (hs : ∀ a, 0 < k → rs[k - 1]? = some a → r.seq = (a.seq + 1) % 18446744073709551616) : TP rs (k + 1) segs (last ++ [r]) := by
  refine ⟨?_, fun j x hj hx => ?_, fun j a b hj ha hb => ?_⟩
  · rw [← List.append_assoc, h.cat, List.take_add_one, hr]; rfl
  · by_cases e : j < k
    · exact h.chk j x e hx
    · obtain rfl : j = k := by omega
      rw [hr] at hx; cases hx; exact hc
  · by_cases e : j + 1 < k
    · exact h.seq j a b e ha hb
    · obtain rfl : k = j + 1 := by omega
      rw [hr] at hb; cases hb
      exact hs a (by omega) ha
theorem TP.cut {rs : List Rec} {k : Nat} {segs : List (List Rec)} {last : List Rec} (h : TP rs k segs last) : TP rs k (segs ++ [last]) [] := ⟨by simpa using h.cat, h.chk, h.seq⟩

/-- THE PLAIN LAW: what comes back of the segments -/
theorem torn_plain {rs : List Rec} {segs : List (List Rec)} {last : List Rec} (h : TP rs rs.length segs last) (hok : ∀ r ∈ rs, RecOk r) (j n : Nat) (hj : j ≤ last.length) (h1 : ((last.take j).flatMap boxR).length ≤ n)
    (h2 : n ≤ (last.flatMap boxR).length) (h3 : j = last.length ∨ n < ((last.take (j + 1)).flatMap boxR).length) (bs : List (List UInt8)) (hbs : bs = segs.map (fun s => s.flatMap boxR)) :
    segsS (true, 0) (bs ++ [(last.flatMap boxR).take n]) = rs.take (segs.flatten.length + j) := by
  obtain ⟨t, ht, hn⟩ := torn_cut last j n hj h1 h.last_chk h2 h3
  have hcat := h.cat
  rw [List.take_length] at hcat
  have hgood : Good true 0 rs := good_of rs true 0 (fun r _ e => by cases e) (fun r hr => by
    obtain ⟨i, hi, rfl⟩ := List.mem_iff_getElem.1 hr
    exact ⟨h.chk i _ hi (List.getElem?_eq_getElem hi), hok _ (List.getElem_mem hi)⟩) (fun i a b ha hb => h.seq i a b (by have := (List.getElem?_eq_some_iff.1 hb).1; omega) ha hb)
  rw [← hcat, ← List.take_append_drop j last] at hgood
  subst hbs
  rw [ht, segs_torn segs (last.take j) t (last.drop j) (true, 0) hgood hn, ← hcat, List.take_append, List.take_of_length_le (l := segs.flatten) (by omega), Nat.add_sub_cancel_left]
end Go.Proofs.Ytblpnohfileibaa

/- name.Hex gives two hex digits for each byte, for every slice of bytes of at most 10^11 bytes that is not empty. -/
namespace Go.Proofs.Ytblpnohfileibaa
open Go.RowKit

def hexd (x : Nat) : UInt8 := UInt8.ofNat (if x < 10 then 48 + x else 87 + x)
def hexs (l : List UInt8) : List UInt8 := l.flatMap fun b => [hexd (b.toNat / 16), hexd (b.toNat % 16)]

theorem sign_any (x : Int) (h0 : 0 ≤ x) (h1 : x ≤ 15) (w : World) :
    Calls Try.prog 77 #[.int .u8 x] w fun e w' => e = .returned (.int .u8 ((hexd x.toNat).toNat : Int)) ∧ w = w' := by
  have hx : ((hexd x.toNat).toNat : Int) = if x < 10 then 48 + x else 87 + x := by
    unfold hexd
    rw [UInt8.toNat_ofNat']
    split <;> split <;> omega
  rw [hx]; clear hx
  by_cases h : x < 10
  · go_enter Try.func77, Try.ntmps77
    go_wp2
    go_ret
    simp [h]
  · go_enter Try.func77, Try.ntmps77
    go_wp2
    go_ret
    simp [h]
    omega

theorem hexs_snoc (l : List UInt8) (x : UInt8) : hexs (l ++ [x]) = hexs l ++ [hexd (x.toNat / 16), hexd (x.toNat % 16)] := by simp [hexs]
theorem hexs_length (l : List UInt8) : (hexs l).length = 2 * l.length := by
  induction l with
  | nil => rfl
  | cons x l ih => simp [hexs] at *; omega

set_option maxRecDepth 100000 in
theorem Hex_some (A : Option Addr) (n c : Nat) (l : List UInt8) (w : World) (h : By w A n l) (hn : n ≤ 100000000000) (h0 : 0 < n) :
    Calls Try.prog 45 #[.slice A n c] w fun e w' => e = .returned (.string ⟨(hexs l).toArray⟩) ∧ Below w.heap.size w w' := by
  have hl : l.length = n := by simpa using h.1
  obtain ⟨b, o, rfl, _⟩ := h.at_ h0
  have hne : ((n : Int) == 0) = false := by simp; omega
  go_enter Try.func45, Try.ntmps45
  go_wp2_with (at_make; refine mk_u8 _ rfl _ _ rfl w.heap.size _ _ _ (2 * n) rfl rfl (by omega) (by omega) (Nat.le_refl _) ?_; intro w1 hown hgrow)
  go_loopw [3, 15] (fun v i wr => ∃ k : Nat, k ≤ n ∧ i = .int .i64 k ∧ wr.ownsRow w.heap.size 5 1 v (2 * k) ((hexs (l.take k)).map bv) ∧ Below w.heap.size w wr) (fun _ i _ => n - (intOf i).toNat)
  case atStart => exact ⟨0, Nat.zero_le _, rfl, by simpa [hexs] using hown, (Below.refl _ _).grown hgrow (Nat.le_refl _) (fun k h => by cases h)⟩
  case round =>
    obtain ⟨k, hk, rfl, hrow, hb⟩ := hrel
    by_cases hlt : k < n
    · obtain ⟨b', o', hA, x, hx, hc⟩ := h.at_ hlt
      cases hA
      have hcell : wr.cell? ⟨b, o + k, none⟩ = some (.int .u8 (x.toNat : Int)) := (hb.cell (p := ⟨b, o + k, none⟩) (cell_lt hc)).trans hc
      have hxl := x.toNat_lt
      have hsz := hb.size
      have HX := Lib.hid hx
      have HN := Lib.hid hl
      clear hx hc hl
      go_wp2_with (first | (go_at_call 77; refine (sign_any _ (by omega) (by omega) _).mono ?_; rintro e w' ⟨rfl, rfl⟩) | (at_builtin; refine app_u8 _ rfl _ _ rfl w.heap.size _ _ _ rfl (hrow.alloc _) _ _ _ [bv (hexd (x.toNat / 16)), bv (hexd (x.toNat % 16))] rfl (Rd.lit _ 1 2 _ _ rfl) (bv_oneCell [_, _]) (by omega) (by simp; omega) ?_; intro A1 c1 w1 hown1 hgrow1 hblk1))
      refine ⟨⟨k + 1, by omega, by go_num, ?_, ?_⟩, by simp [intOf]; omega⟩
      · rw [List.take_add_one, HX.out]
        simp only [Option.toList_some, hexs_snoc, List.map_append]
        exact hown1
      · exact (hb.alloc hb.size _).grown hgrow1 (by simp; omega) (fun g hg => (hrow.lt g hg).1)
    · obtain rfl : k = n := by omega
      obtain ⟨A, cc, rfl, _, _⟩ := own_slice hrow
      have hcv := cv_b2s (own_by hrow) cc
      go_wp2
      go_ret
      rw [List.take_of_length_le (by omega)]
      exact ⟨by simp, hb⟩
end Go.Proofs.Ytblpnohfileibaa

/- name.digit, name.nibble and name.Bytes give what they say, for every string of at most 2*10^11 letters. -/
namespace Go.Proofs.Ytblpnohfileibaa
open Go.RowKit

def digk (r : Int) : Bool := decide (48 ≤ r) && decide (r ≤ 57)
theorem digit_any (r : Int) (w : World) : Calls Try.prog 97 #[.int .i32 r] w fun e w' => e = .returned (.bool (digk r)) ∧ w = w' := by
  unfold digk
  by_cases h : 48 ≤ r
  · go_enter Try.func97, Try.ntmps97
    go_wp2
    go_ret
    simp [h]
  · go_enter Try.func97, Try.ntmps97
    go_wp2
    go_ret
    simp [h]
    omega

def nibv (r : Int) : Int := if r ≤ 57 then r - 48 else r - 87
def nibk (r : Int) : Bool := decide (48 ≤ r ∧ r ≤ 57) || decide (97 ≤ r ∧ r ≤ 102)
theorem nibble_yes (r : Int) (h : nibk r = true) (w : World) : Calls Try.prog 76 #[.int .i32 r] w fun e w' => e = .returned (.tuple #[.int .u8 (nibv r), .bool true]) ∧ w = w' := by
  unfold nibv
  simp [nibk] at h
  rcases h with ⟨h1, h2⟩ | ⟨h1, h2⟩
  · have hd : digk r = true := by simp [digk]; omega
    go_enter Try.func76, Try.ntmps76
    go_wp2_with (go_at_call 97; refine (digit_any _ _).mono ?_; rintro e w' ⟨rfl, rfl⟩)
    go_ret2
    simp [h2]
  · have hd : digk r = false := by simp [digk]; omega
    go_enter Try.func76, Try.ntmps76
    go_wp2_with (go_at_call 97; refine (digit_any _ _).mono ?_; rintro e w' ⟨rfl, rfl⟩)
    go_ret2
    simp [show ¬ r ≤ 57 by omega]
    omega
theorem nibble_no (r : Int) (h : nibk r = false) (w : World) : Calls Try.prog 76 #[.int .i32 r] w fun e w' => e = .returned (.tuple #[.int .u8 0, .bool false]) ∧ w = w' := by
  simp [nibk] at h
  have hd : digk r = false := by simp [digk]; omega
  by_cases h1 : 97 ≤ r
  · have h2 : 102 < r := by omega
    go_enter Try.func76, Try.ntmps76
    go_wp2_with (go_at_call 97; refine (digit_any _ _).mono ?_; rintro e w' ⟨rfl, rfl⟩)
    go_ret2
    simp
  · go_enter Try.func76, Try.ntmps76
    go_wp2_with (go_at_call 97; refine (digit_any _ _).mono ?_; rintro e w' ⟨rfl, rfl⟩)
    go_ret2
    simp

/-- the k letters ahead, as half-filled bytes -/
def unb (l : List UInt8) (k j : Nat) : Int :=
  (if 2 * j < k then nibv ((l.getD (2 * j) 0).toNat) else 0) * (if 2 * j + 1 < k then 16 else 1) + (if 2 * j + 1 < k then nibv ((l.getD (2 * j + 1) 0).toNat) else 0)
def unbs (l : List UInt8) (k m : Nat) : List Value := (List.range m).map fun j => .int .u8 (unb l k j)
def hexk (l : List UInt8) : Bool := l.all fun b => nibk b.toNat

theorem nibv_bd (r : Int) (h : nibk r = true) : 0 ≤ nibv r ∧ nibv r ≤ 15 := by
  simp [nibk] at h
  unfold nibv
  split <;> omega

theorem unb_step (l : List UInt8) (k : Nat) (x : UInt8) (hx : l[k]? = some x) : unb l (k + 1) (k / 2) = unb l k (k / 2) * 16 + nibv x.toNat ∨ (k % 2 = 0 ∧ unb l k (k / 2) = 0 ∧ unb l (k + 1) (k / 2) = nibv x.toNat) := by
  have e : l.getD k 0 = x := by simp [List.getD, hx]
  rcases Nat.mod_two_eq_zero_or_one k with h | h
  · right
    have h2 : 2 * (k / 2) = k := by omega
    unfold unb
    rw [h2, e, if_neg (show ¬ k < k by omega), if_neg (show ¬ k + 1 < k by omega), if_neg (show ¬ k + 1 < k by omega), if_pos (show k < k + 1 by omega), if_neg (show ¬ k + 1 < k + 1 by omega), if_neg (show ¬ k + 1 < k + 1 by omega)]
    exact ⟨h, by omega, by omega⟩
  · left
    have h2 : 2 * (k / 2) + 1 = k := by omega
    have h3 : 2 * (k / 2) < k := by omega
    unfold unb
    rw [h2, e, if_pos (by omega), if_pos (by omega), if_pos (by omega), if_pos h3, if_neg (by omega), if_neg (by omega)]
    omega
theorem unb_bd (l : List UInt8) (k : Nat) (hk : ∀ j, j < k → nibk (l.getD j 0).toNat = true) : 0 ≤ unb l k (k / 2) ∧ unb l k (k / 2) ≤ 15 := by
  have h3 : ¬ (2 * (k / 2) + 1 < k) := by omega
  unfold unb
  rw [if_neg h3, if_neg h3]
  split
  · rename_i h
    have := nibv_bd _ (hk _ h)
    omega
  · omega
theorem unb_other (l : List UInt8) (k j : Nat) (h : j ≠ k / 2) : unb l (k + 1) j = unb l k j := by
  unfold unb
  have h1 : (2 * j < k + 1) ↔ (2 * j < k) := by omega
  have h2 : (2 * j + 1 < k + 1) ↔ (2 * j + 1 < k) := by omega
  simp only [h1, h2]
theorem unbs_step (l : List UInt8) (k m : Nat) (u : Int) (hk : k < 2 * m) (hu : unb l (k + 1) (k / 2) = u) : unbs l (k + 1) m = (unbs l k m).set (k / 2) (.int .u8 u) := by
  apply List.ext_getElem?
  intro j
  unfold unbs
  rw [List.getElem?_set]
  by_cases hj : k / 2 = j
  · subst hj
    have hd : k / 2 < m := by omega
    simp [hu, hd]
  · rw [if_neg hj]
    simp only [List.getElem?_map]
    by_cases hjm : j < m
    · simp [hjm, unb_other l k j (Ne.symm hj)]
    · simp [hjm]
theorem or16 (u v : Int) (h0 : 0 ≤ u) (h1 : u ≤ 15) (h2 : 0 ≤ v) (h3 : v ≤ 15) : bits .or .u8 (u * 16) v = u * 16 + v :=
  bits_join .u8 8 (by decide) wraps_u8 4 (u * 16) v (by omega) (by omega) (by omega) h2 (by omega) (by omega)

def BytesR (l : List UInt8) (m : Nat) (w : World) (e : Ending) (w' : World) : Prop :=
  (hexk l = true ∧ (∃ g, e = .returned (.tuple #[.slice (some ⟨g, 0, none⟩) m m, .int .i64 0]) ∧ w'.ownsRow w.heap.size 5 1 (.slice (some ⟨g, 0, none⟩) m m) m (unbs l (2 * m) m)) ∧ Below w.heap.size w w') ∨
  (hexk l = false ∧ e = .returned (.tuple #[.slice none 0 0, .int .i64 2]) ∧ Below w.heap.size w w')

set_option maxRecDepth 100000 in
theorem Bytes_even (s : ByteArray) (m : Nat) (hs : s.data.toList.length = 2 * m) (hm : m ≤ 100000000000) (h0 : 0 < m) (w : World) :
    Calls Try.prog 44 #[.string s] w (BytesR s.data.toList m w) := by
  have hsz : s.size = 2 * m := by rw [← hs]; simp
  have hL : s.toList = s.data.toList := Lib.toList_data s
  have hn0 : s.data.toList ≠ [] := by intro h; rw [h] at hs; simp at hs; omega
  have h1 : (s.toList == [45]) = false := by rw [hL]; simp; intro h; rw [h] at hs; simp at hs; omega
  have h2 : ¬ s.toList = [] := by rw [hL]; exact hn0
  have h3 : s.toList.isEmpty = false := by rw [hL]; simpa using hn0
  have HL := Lib.hid hL
  have HS := Lib.hid hs
  clear hL hs hn0
  go_enter Try.func44, Try.ntmps44
  go_wp2_with (at_make; refine mkf_u8 _ rfl _ _ rfl w.heap.size _ _ _ _ m rfl rfl (by omega) (by omega) (by omega) (Nat.le_refl _) ?_; intro w1 hown hgrow)
  go_loopw [] (fun wr => ∃ k : Nat, k ≤ 2 * m ∧ wr.heap[w1.heap.size]? = some (.stringIter s k) ∧ wr.ownsRow w.heap.size 5 1 (.slice (some ⟨w.heap.size, 0, none⟩) m m) m (unbs s.data.toList k m) ∧ (∀ j, j < k → nibk (s.data.toList.getD j 0).toNat = true) ∧ Below w.heap.size w wr) (fun wr => 2 * m - wr.iterPos w1.heap.size)
  case atStart =>
    refine ⟨0, Nat.zero_le _, by rw [World.iter_heap], ?_, fun j h => absurd h (Nat.not_lt_zero _), ?_⟩
    · have e : unbs s.data.toList 0 m = List.replicate m (.int .u8 0) := by
        apply List.ext_getElem?
        intro j
        unfold unbs unb
        by_cases hj : j < m <;> simp [hj, List.getElem?_replicate]
      rw [e]
      exact hown.alloc _
    · exact ((Below.refl _ _).grown hgrow (Nat.le_refl _) (fun k h => by cases h)).alloc hgrow.size _
  case round =>
    obtain ⟨k, hk2, hit, hrow, hall, hb⟩ := hrel
    by_cases hlt : k < 2 * m
    · obtain ⟨x, hx⟩ : ∃ x, s.data.toList[k]? = some x := ⟨_, List.getElem?_eq_getElem (by rw [HS.out]; omega)⟩
      have hxe : s.data.toList.getD k 0 = x := by simp [List.getD, hx]
      have HALL := Lib.hid hall
      have HXE := Lib.hid hxe
      clear hall hxe
      by_cases hxk : nibk x.toNat = true
      case neg =>
        have hno : hexk s.data.toList = false := by
          cases hh : hexk s.data.toList
          · rfl
          · unfold hexk at hh
            exact absurd (List.all_eq_true.1 hh x (List.mem_of_getElem? hx)) hxk
        have HNO := Lib.hid hno
        clear hno
        by_cases hxa : x.toNat < 128
        · have hnx := next_ascii (P := Try.prog) hit hx hxa
          have HXK := Lib.hid (Bool.eq_false_iff.2 hxk)
          have HIT := Lib.hid hit
          have HX := Lib.hid hx
          clear hx hit hxk
          go_wp2_with (go_at_call 76; refine (nibble_no _ HXK.out _).mono ?_; rintro e w' ⟨rfl, rfl⟩)
          go_ret2
          exact .inr ⟨HNO.out, by simp, Lib.below_iterAt hb (Nat.le_of_lt (hown.lt _ rfl).2) _ _⟩
        · obtain ⟨r, q, hr1, hr2, hq, hnx⟩ : ∃ (r q : Nat), 128 ≤ r ∧ r ≤ 1114111 ∧ 1 ≤ q ∧ ∀ ty, (Instr.next (.pointer (some ⟨w1.heap.size, 0, none⟩)) true ty).run Try.prog wr = .ok (.tuple #[.bool true, .int .i64 k, .int .i32 (r : Int)]) (wr.iterAt w1.heap.size s (k + q)) := by
            obtain ⟨h1, h2, h3⟩ := decode_high s k (by have := (List.getElem?_eq_some_iff.1 hx).1; simpa using this) (by rw [getElem_bs, (List.getElem?_eq_some_iff.1 hx).2]; exact hxa)
            exact ⟨_, _, h1, h2, h3, fun ty => Lib.run_next_any_at wr w1.heap.size s k ty hit (by have := (List.getElem?_eq_some_iff.1 hx).1; simpa using this)⟩
          have HRK : Hid (nibk (r : Int) = false) := Lib.hid (by simp [nibk]; omega)
          have HIT := Lib.hid hit
          have HX := Lib.hid hx
          have HXN := Lib.hid hxk
          clear hx hit hxk
          go_wp2_with (go_at_call 76; refine (nibble_no _ HRK.out _).mono ?_; rintro e w' ⟨rfl, rfl⟩)
          go_ret2
          exact .inr ⟨HNO.out, by simp, Lib.below_iterAt hb (Nat.le_of_lt (hown.lt _ rfl).2) _ _⟩
      have hxa : x.toNat < 128 := by simp [nibk] at hxk; omega
      have hnx := next_ascii (P := Try.prog) hit hx hxa
      have hcell : (wr.iterAt w1.heap.size s (k + 1)).cell? ⟨w.heap.size, k / 2, none⟩ = some (.int .u8 (unb s.data.toList k (k / 2))) := by
        have h1 : (wr.iterAt w1.heap.size s (k + 1)).cell? ⟨w.heap.size, k / 2, none⟩ = wr.cell? ⟨w.heap.size, k / 2, none⟩ := World.cell?_of_block (a := ⟨w.heap.size, k / 2, none⟩) (Lib.iterAt_other _ _ _ _ _ (by have := (hown.lt _ rfl).2; simp only at this ⊢; omega))
        rw [h1, hrow.cellAt _ (by omega)]
        unfold unbs
        rw [List.getElem?_map, List.getElem?_range (by omega)]
        rfl
      have hfz : (wr.iterAt w1.heap.size s (k + 1)).frozen? ⟨w.heap.size, k / 2, none⟩ = false := by
        have h1 : (wr.iterAt w1.heap.size s (k + 1)).frozen? ⟨w.heap.size, k / 2, none⟩ = wr.frozen? ⟨w.heap.size, k / 2, none⟩ := World.frozen?_of_block (a := ⟨w.heap.size, k / 2, none⟩) (Lib.iterAt_other _ _ _ _ _ (by have := (hown.lt _ rfl).2; simp only at this ⊢; omega))
        rw [h1, hrow.frozenAt]
      have hv := nibv_bd _ hxk
      have hub : 0 ≤ unb s.data.toList k (k / 2) ∧ unb s.data.toList k (k / 2) ≤ 15 := unb_bd _ _ HALL.out
      have HX := Lib.hid hx
      have HIT := Lib.hid hit
      have HROW := Lib.hid hrow
      have HXK := Lib.hid hxk
      clear hx hit hrow hxk
      generalize hu : unb s.data.toList k (k / 2) = u at *
      have HU := Lib.hid hu
      clear hu
      obtain ⟨hu0, hu1⟩ := hub
      obtain ⟨hv0, hv1⟩ := hv
      go_wp2_with (go_at_call 76; refine (nibble_yes _ HXK.out _).mono ?_; rintro e w' ⟨rfl, rfl⟩)
      have hg1 : w.heap.size < w1.heap.size := (hown.lt _ rfl).2
      have hrow1 : (wr.iterAt w1.heap.size s (k + 1)).ownsRow w.heap.size 5 1 (.slice (some ⟨w.heap.size, 0, none⟩) m m) m (unbs s.data.toList k m) :=
        ownsRow_iterAt' HROW.out (by simp [Value.ownBlock]; omega) _ _
      obtain ⟨hrow2, hgr2⟩ := hrow1.stored (k / 2) (.int .u8 (bits .or .u8 (u * 16) (nibv x.toNat)))
      have he : unb s.data.toList (k + 1) (k / 2) = bits .or .u8 (u * 16) (nibv x.toNat) := by
        rw [or16 u _ hu0 hu1 hv0 hv1]
        rcases unb_step _ _ _ HX.out with h | ⟨_, h, h'⟩
        · rw [h, HU.out]
        · rw [h', ← HU.out, h]; omega
      refine ⟨⟨k + 1, by omega, ?_, ?_, fun j hj => ?_, ?_⟩, ?_⟩
      · rw [Below.heap_setCell _ _ _ _ (by simp; omega)]
        exact Lib.iterAt_heap _ _ _ _ _ HIT.out
      · rw [unbs_step _ _ _ _ hlt he]
        exact hrow2
      · by_cases hjk : j < k
        · exact HALL.out j hjk
        · obtain rfl : j = k := by omega
          rw [HXE.out]; exact HXK.out
      · exact (Lib.below_iterAt hb (Nat.le_of_lt hg1) _ _).setCell (Nat.le_refl _) _
      · have h5 : ((wr.iterAt w1.heap.size s (k + 1)).setCell ⟨w.heap.size, k / 2, none⟩ (Value.int .u8 (bits BinOp.or .u8 (u * 16) (nibv x.toNat)))).heap[w1.heap.size]? = some (.stringIter s (k + 1)) := by
          rw [Below.heap_setCell _ _ _ _ (by simp; omega)]
          exact Lib.iterAt_heap _ _ _ _ _ HIT.out
        rw [iterPos_of h5, iterPos_of HIT.out]
        omega
    · obtain rfl : k = 2 * m := by omega
      have hnx := next_end (P := Try.prog) hit (by rw [HS.out]; omega)
      have HALL := Lib.hid hall
      have HROW := Lib.hid hrow
      clear hall hrow
      go_wp2
      go_ret2
      refine .inl ⟨?_, ⟨_, by simp, HROW.out⟩, hb⟩
      unfold hexk
      refine List.all_eq_true.2 fun y hy => ?_
      obtain ⟨j, hj, rfl⟩ := List.mem_iff_getElem.1 hy
      have := HALL.out j (by rw [HS.out] at hj; exact hj)
      rw [List.getD_eq_getElem?_getD, List.getElem?_eq_getElem hj] at this
      exact this

theorem Bytes_hex (s : ByteArray) (l : List UInt8) (m : Nat) (hl : s.data.toList = l) (hs : l.length = 2 * m) (hm : m ≤ 100000000000) (h0 : 0 < m) (hk : hexk l = true) (w : World) :
    Calls Try.prog 44 #[.string s] w fun e w' => ∃ g, e = .returned (.tuple #[.slice (some ⟨g, 0, none⟩) m m, .int .i64 0]) ∧ w'.ownsRow w.heap.size 5 1 (.slice (some ⟨g, 0, none⟩) m m) m (unbs l (2 * m) m) ∧ Below w.heap.size w w' := by
  subst hl
  refine (Bytes_even s m hs hm h0 w).mono fun e w' h => ?_
  rcases h with ⟨_, ⟨g, h1, h2⟩, h3⟩ | ⟨hno, _⟩
  · exact ⟨g, h1, h2, h3⟩
  · rw [hk] at hno; cases hno
theorem Bytes_bad (s : ByteArray) (l : List UInt8) (m : Nat) (hl : s.data.toList = l) (hs : l.length = 2 * m) (hm : m ≤ 100000000000) (h0 : 0 < m) (hk : hexk l = false) (w : World) :
    Calls Try.prog 44 #[.string s] w fun e w' => e = .returned (.tuple #[.slice none 0 0, .int .i64 2]) ∧ Below w.heap.size w w' := by
  subst hl
  refine (Bytes_even s m hs hm h0 w).mono fun e w' h => ?_
  rcases h with ⟨hno, _⟩ | ⟨_, h1, h2⟩
  · rw [hk] at hno; cases hno
  · exact ⟨h1, h2⟩
theorem Bytes_dash (w : World) : Calls Try.prog 44 #[.string ⟨#[45]⟩] w fun e w' => e = .returned (.tuple #[.slice none 0 0, .int .i64 0]) ∧ w = w' := by
  go_enter Try.func44, Try.ntmps44
  go_wp2
  go_ret2
  simp
theorem Bytes_empty (w : World) : Calls Try.prog 44 #[.string ⟨#[]⟩] w fun e w' => e = .returned (.tuple #[.slice none 0 0, .int .i64 2]) ∧ w = w' := by
  go_enter Try.func44, Try.ntmps44
  go_wp2
  go_ret2
  simp
theorem Bytes_odd (s : ByteArray) (m : Nat) (hs : s.data.toList.length = 2 * m + 1) (hm : m ≤ 100000000000) (hd : s.data.toList ≠ [45]) (w : World) : Calls Try.prog 44 #[.string s] w fun e w' => e = .returned (.tuple #[.slice none 0 0, .int .i64 2]) ∧ w = w' := by
  have hsz : s.size = 2 * m + 1 := by rw [← hs]; simp
  have hL : s.toList = s.data.toList := Lib.toList_data s
  have hn0 : s.data.toList ≠ [] := by intro h; rw [h] at hs; simp at hs
  have h1 : (s.toList == [45]) = false := by rw [hL]; simpa using hd
  have h2 : ¬ s.toList = [] := by rw [hL]; exact hn0
  have h3 : s.toList.isEmpty = false := by rw [hL]; simpa using hn0
  clear hL hs hn0 hd
  go_enter Try.func44, Try.ntmps44
  go_wp2
  go_ret2
  simp
end Go.Proofs.Ytblpnohfileibaa

/- seg.Name gives the letter w and sixteen hex digits, for every number below 2^64. -/
namespace Go.Proofs.Ytblpnohfileibaa
open Go.RowKit

def be8 (n : Nat) : List UInt8 := [UInt8.ofNat (n / 72057594037927936), UInt8.ofNat (n / 281474976710656), UInt8.ofNat (n / 1099511627776), UInt8.ofNat (n / 4294967296), UInt8.ofNat (n / 16777216), UInt8.ofNat (n / 65536), UInt8.ofNat (n / 256), UInt8.ofNat n]
def nameL (n : Nat) : List UInt8 := 119 :: hexs (be8 n)
def nmCells (n k : Nat) : Array Value := (#[bv 0, bv 0, bv 0, bv 0, bv 0, bv 0, bv 0, bv 0].toList.take (8 - k) ++ ((be8 n).map bv).drop (8 - k)).toArray

theorem nm_zero (n k : Nat) (hk : k < 8) : (nmCells n k)[7 - k]? = some (.int .u8 0) := by
  have h : k = 0 ∨ k = 1 ∨ k = 2 ∨ k = 3 ∨ k = 4 ∨ k = 5 ∨ k = 6 ∨ k = 7 := by omega
  rcases h with rfl | rfl | rfl | rfl | rfl | rfl | rfl | rfl <;> simp [nmCells, bv, be8]
theorem nm_step (n k : Nat) (hk : k < 8) : (nmCells n k).setIfInBounds (7 - k) (.int .u8 ((n / 256 ^ k % 256 : Nat) : Int)) = nmCells n (k + 1) := by
  have h : k = 0 ∨ k = 1 ∨ k = 2 ∨ k = 3 ∨ k = 4 ∨ k = 5 ∨ k = 6 ∨ k = 7 := by omega
  rcases h with rfl | rfl | rfl | rfl | rfl | rfl | rfl | rfl <;> simp [nmCells, bv, be8]

set_option maxRecDepth 100000 in
theorem Name_any (n : Nat) (hn : n < 18446744073709551616) (w : World) :
    Calls Try.prog 12 #[.int .u64 (n : Int)] w fun e w' => e = .returned (.string ⟨(nameL n).toArray⟩) ∧ Below w.heap.size w w' := by
  go_enter Try.func12, Try.ntmps12
  go_wp2_with fail
  go_loopw [5] (fun i wr => ∃ k : Nat, k ≤ 8 ∧ i = .int .i64 k ∧ wr.heap[w.heap.size]? = some (.cells (nmCells n k) 84 (0, 0)) ∧ Below w.heap.size w wr) (fun i _ => 8 - (intOf i).toNat)
  case atStart => refine ⟨0, by omega, rfl, ?_, (Below.refl _ _).alloc (Nat.le_refl _) _⟩; rw [heap_alloc_new]; simp [nmCells, bv, be8]
  case round =>
    obtain ⟨k, hk, rfl, hblk, hb⟩ := hrel
    by_cases hlt : k < 8
    · have hc : wr.cell? ⟨w.heap.size, 7 - k, none⟩ = some (.int .u8 0) := (cell_of_row wr _ (7 - k) _ _ _ hblk).trans (nm_zero n k hlt)
      have hf : wr.frozen? ⟨w.heap.size, 7 - k, none⟩ = false := frozen_of_row wr _ (7 - k) _ _ hblk
      have hs : (wr.setCell ⟨w.heap.size, 7 - k, none⟩ (.int .u8 ((n / 256 ^ k % 256 : Nat) : Int))).heap[w.heap.size]? = some (.cells (nmCells n (k + 1)) 84 (0, 0)) := by
        rw [heap_setCell_same _ _ _ _ _ _ hblk, nm_step n k hlt]
      have hb' := hb.setCell (p := ⟨w.heap.size, 7 - k, none⟩) (Nat.le_refl _) (.int .u8 ((n / 256 ^ k % 256 : Nat) : Int))
      have hm : (n : Int) / 72057594037927936 % 256 = (n : Int) / 72057594037927936 := by omega
      have HM := Lib.hid hm
      clear hm
      have HS := Lib.hid hs
      have HB := Lib.hid hb'
      clear hs hb' hblk
      have h : k = 0 ∨ k = 1 ∨ k = 2 ∨ k = 3 ∨ k = 4 ∨ k = 5 ∨ k = 6 ∨ k = 7 := by omega
      rcases h with rfl | rfl | rfl | rfl | rfl | rfl | rfl | rfl
      all_goals
        simp only [Nat.reduceSub, Nat.sub_zero] at hc hf
        go_wp2_with fail
        first
          | exact ⟨⟨1, by omega, rfl, by simpa using HS.out, by simpa using HB.out⟩, by simp [intOf]⟩
          | exact ⟨⟨2, by omega, rfl, by simpa using HS.out, by simpa using HB.out⟩, by simp [intOf]⟩
          | exact ⟨⟨3, by omega, rfl, by simpa using HS.out, by simpa using HB.out⟩, by simp [intOf]⟩
          | exact ⟨⟨4, by omega, rfl, by simpa using HS.out, by simpa using HB.out⟩, by simp [intOf]⟩
          | exact ⟨⟨5, by omega, rfl, by simpa using HS.out, by simpa using HB.out⟩, by simp [intOf]⟩
          | exact ⟨⟨6, by omega, rfl, by simpa using HS.out, by simpa using HB.out⟩, by simp [intOf]⟩
          | exact ⟨⟨7, by omega, rfl, by simpa using HS.out, by simpa using HB.out⟩, by simp [intOf]⟩
          | exact ⟨⟨8, by omega, rfl, by simpa [HM.out] using HS.out, by simpa [HM.out] using HB.out⟩, by simp [intOf]⟩
    · obtain rfl : k = 8 := by omega
      have hby : By wr (some ⟨w.heap.size, 0, none⟩) 8 (be8 n) := by
        refine ⟨rfl, fun _ => ⟨_, _, rfl, fun j u hu => ?_⟩⟩
        rw [Nat.zero_add, cell_of_row wr _ j _ _ _ hblk]
        simpa [nmCells] using hu
      clear hblk
      have hlen : (hexs (be8 n)).length ≤ 16 := by rw [hexs_length]; simp [be8]
      go_wp2_with (go_at_call 45; refine (Hex_some _ 8 8 _ _ hby (by omega) (by omega)).mono ?_; rintro e w' ⟨rfl, hb'⟩)
      go_ret
      refine ⟨by simp [nameL]; rfl, hb.trans (hb'.mono hb.size)⟩
end Go.Proofs.Ytblpnohfileibaa

/- The reference of seg.Name gives the same text, for every number below 2^64. -/
namespace Go.Proofs.Ytblpnohfileibaa
open Go.RowKit

def hexLow (n : Nat) : Nat → List UInt8
  | 0 => []
  | k + 1 => hexd (n / 16 ^ k % 16) :: hexLow n k
theorem hexLow_length (n k : Nat) : (hexLow n k).length = k := by induction k with
  | zero => rfl
  | succ k ih => simp [hexLow, ih]

theorem hex_at (r : Nat) (h : r < 16) : (⟨#[48, 49, 50, 51, 52, 53, 54, 55, 56, 57, 97, 98, 99, 100, 101, 102]⟩ : ByteArray).extract r (r + 1) = ⟨#[hexd r]⟩ := by
  have h : r = 0 ∨ r = 1 ∨ r = 2 ∨ r = 3 ∨ r = 4 ∨ r = 5 ∨ r = 6 ∨ r = 7 ∨ r = 8 ∨ r = 9 ∨ r = 10 ∨ r = 11 ∨ r = 12 ∨ r = 13 ∨ r = 14 ∨ r = 15 := by omega
  rcases h with rfl | rfl | rfl | rfl | rfl | rfl | rfl | rfl | rfl | rfl | rfl | rfl | rfl | rfl | rfl | rfl <;> rfl
theorem ba_append (a b : List UInt8) : (⟨a.toArray⟩ : ByteArray) ++ ⟨b.toArray⟩ = ⟨(a ++ b).toArray⟩ := by
  apply ByteArray.ext
  simp
theorem hexLow_name (n : Nat) : 119 :: hexLow n 16 = nameL n := by
  unfold nameL be8 hexs
  simp only [hexLow, List.flatMap_cons, List.flatMap_nil, List.append_nil, List.cons_append, List.nil_append, UInt8.toNat_ofNat']
  congr 1
  simp only [List.cons.injEq, and_true]
  refine ⟨?_, ?_, ?_, ?_, ?_, ?_, ?_, ?_, ?_, ?_, ?_, ?_, ?_, ?_, ?_, ?_⟩ <;> (congr 1; omega)

set_option maxRecDepth 100000 in
theorem refName_any (n : Nat) (hn : n < 18446744073709551616) (w : World) :
    Calls Try.prog 14 #[.int .u64 (n : Int)] w fun e w' => e = .returned (.string ⟨(nameL n).toArray⟩) ∧ w = w' := by
  go_enter Try.func14, Try.ntmps14
  go_wp2_with fail
  go_loop [0, 3, 4] (fun a s i => ∃ k : Nat, k ≤ 16 ∧ i = .int .i64 k ∧ a = .int .u64 ((n / 16 ^ k : Nat) : Int) ∧ s = .string ⟨(hexLow n k).toArray⟩) (fun _ _ i => 16 - (intOf i).toNat)
  case atStart => exact ⟨0, by omega, rfl, by simp, rfl⟩
  case round =>
    obtain ⟨k, hk, rfl, rfl, rfl⟩ := hrel
    by_cases hlt : k < 16
    · have hq : n / 16 ^ k < 18446744073709551616 := Nat.lt_of_le_of_lt (Nat.div_le_self _ _) hn
      have hlen : (hexLow n k).length ≤ 16 := by rw [hexLow_length]; exact hk
      generalize hg : n / 16 ^ k = q at *
      have HG := Lib.hid hg
      clear hg
      go_wp2_with fail
      refine ⟨⟨k + 1, by omega, by go_num, ?_, ?_⟩, by simp [intOf]; omega⟩
      · rw [Nat.pow_succ, ← Nat.div_div_eq_div_mul, HG.out]
        simp
      · rw [hex_at _ (by omega)]
        have := ba_append [hexd (q % 16)] (hexLow n k)
        rw [show (⟨#[hexd (q % 16)]⟩ : ByteArray) = ⟨[hexd (q % 16)].toArray⟩ from rfl, this, hexLow, HG.out]
        rfl
    · obtain rfl : k = 16 := by omega
      have hlen := hexLow_length n 16
      have hl2 : (hexLow n 16).length ≤ 16 := by omega
      clear hlen
      go_wp2
      go_ret
      refine ⟨?_, rfl⟩
      rw [← hexLow_name]
      have := ba_append [119] (hexLow n 16)
      simp only [] at this ⊢
      exact congrArg (fun x => Ending.returned (.string x)) this
end Go.Proofs.Ytblpnohfileibaa
