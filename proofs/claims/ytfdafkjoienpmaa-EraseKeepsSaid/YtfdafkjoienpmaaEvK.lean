/- erase.Keep: the events that are kept, each with its bytes in new memory. -/
import Derived.Test.YtfdafkjoienpmaaEvF
namespace Go.Proofs.Ytfdafkjoienpmaa
open Go.RowKit

def DelA (A : Option Addr) (n c : Nat) (l : List Ev) (t : ByteArray) (ss : List Int) (w : World) (r : Ending) (w' : World) : Prop :=
  ∃ m, m = (l.filter (keepB t ss)).length ∧ r = .returned (.slice A m c) ∧ w'.ownsRow 0 30 8 (.slice A m c) m ((l.filter (keepB t ss)).flatMap evCells) ∧ Fr (fun k => A = some ⟨k, 0, none⟩) w w'

theorem exists_first {α : Type} (p : α → Bool) (l : List α) : (∃ k, k < l.length ∧ (∀ e, l[k]? = some e → p e = true) ∧ ∀ j e, j < k → l[j]? = some e → p e = false) ∨ ∀ e ∈ l, p e = false := by
  induction l with
  | nil => right; intro e he; cases he
  | cons x l ih =>
    cases hx : p x with
    | true => left; exact ⟨0, by simp, by intro e he; simp at he; subst he; exact hx, fun j e hj => absurd hj (Nat.not_lt_zero _)⟩
    | false =>
      rcases ih with ⟨k, h0, h1, h2⟩ | h
      · left
        refine ⟨k + 1, by simpa using h0, fun e he => h1 e (by simpa using he), fun j e hj he => ?_⟩
        cases j with
        | zero => simp at he; subst he; exact hx
        | succ j => exact h2 j e (by omega) (by simpa using he)
      · right
        intro e he
        cases he with
        | head => exact hx
        | tail _ h' => exact h e h'

theorem DeleteFunc_any (A : Option Addr) (n c : Nat) (l : List Ev) (Bt Bs : Nat) (t : ByteArray) (A2 : Option Addr) (n2 c2 : Nat) (ss : List Int) (w : World) (hl : l.length = n) (ho : w.ownsRow 0 30 8 (.slice A n c) n (l.flatMap evCells)) (h : Cap w Bt Bs t A2 n2 c2 ss) (hn2 : n2 ≤ 100000000000) (hn : n ≤ 100000000000)
    (hgt : A ≠ some ⟨Bt, 0, none⟩) (hgs : A ≠ some ⟨Bs, 0, none⟩) (hgi : 0 < n2 → ∀ a, A2 = some a → A ≠ some ⟨a.block, 0, none⟩) :
    Calls Try.prog 15 #[.slice A n c, delF Bt Bs] w (DelA A n c l t ss w) := by
  rcases exists_first (delB t ss) l with ⟨k0, hk0, hy, ha⟩ | hall
  · rw [hl] at hk0
    obtain ⟨g, c', hv, _⟩ := ho.form (by omega)
    injection hv with hA _ hc
    subst hA
    refine (DeleteFunc_some g n c l Bt Bs t A2 n2 c2 ss w hl ho h hn2 hn (fun e => hgt (by rw [e])) (fun e => hgs (by rw [e])) (fun h0 a ha' e => hgi h0 a ha' (by rw [e])) k0 hk0 hy ha).mono fun r w' hr => ?_
    obtain ⟨m, h1, h2, h3, h4⟩ := hr
    exact ⟨m, h1, h2, h3, Fr.of_grown h4 (fun k hk => by cases hk; rfl)⟩
  · have hI := IndexFunc_none A n c l Bt Bs t A2 n2 c2 ss w (Rows.of_rd evCells_length hl (own_rd ho)) h hn2 hn hall
    have hfl : l.filter (keepB t ss) = l := by rw [List.filter_eq_self]; intro a ha; simp [keepB, hall a ha]
    have HI := Lib.hid hI
    have HO := Lib.hid ho
    have HF := Lib.hid hfl
    have HL := Lib.hid hl
    clear hI ho h hl hfl hall hgt hgs hgi
    go_enter Try.func15, Try.ntmps15
    go_wp2_with (go_at_call 21; refine (HI.out).mono ?_; rintro r w1 ⟨rfl, hb1⟩)
    go_ret
    refine ⟨n, by rw [HF.out, HL.out], by simp, ?_, Fr.of_below hb1⟩
    rw [HF.out]
    exact bel_own hb1 HO.out

/-- two events alike, but for where their bytes lie -/
def alike (e e' : Ev) : Prop := e'.kind = e.kind ∧ e'.session = e.session ∧ e'.stream = e.stream ∧ e'.tenant = e.tenant ∧ e'.n = e.n ∧ e'.m = e.m ∧ e'.bits = e.bits ∧ e'.data = e.data
def Alikes (l l' : List Ev) : Prop := l'.length = l.length ∧ ∀ (i : Nat) (e e' : Ev), l[i]? = some e → l'[i]? = some e' → alike e e'
def EvOk (w : World) (e : Ev) : Prop := By w e.dA e.dn e.data ∧ e.dn ≤ 100000000000 ∧ (e.dA = none → e.dn = 0)

/-- what Keep answers -/
def KeepR (l : List Ev) (t : ByteArray) (ss : List Int) (w : World) (r : Ending) (w' : World) : Prop :=
  ∃ A m c l', r = .returned (.slice A m c) ∧ Evs w' A m l' ∧ (∀ e ∈ l', EvOk w' e) ∧ Alikes (l.filter (keepB t ss)) l' ∧ Below w.heap.size w w'

set_option maxRecDepth 100000 in
theorem Keep_any (t : ByteArray) (A2 : Option Addr) (n2 c2 : Nat) (ss : List Int) (A : Option Addr) (n c : Nat) (l : List Ev) (w : World) (hs : Ints w A2 n2 ss) (hl : Evs w A n l) (hok : ∀ e ∈ l, EvOk w e) (hn2 : n2 ≤ 100000000000) (hn : n ≤ 100000000000) (hnil : A = none → n = 0) :
    Calls Try.prog 11 #[.string t, .slice A2 n2 c2, .slice A n c] w (KeepR l t ss w) := by
  have HS := Lib.hid hs
  have HL := Lib.hid hl
  have HO := Lib.hid hok
  have HN := Lib.hid hnil
  clear hs hl hok hnil
  go_enter Try.func11, Try.ntmps11
  have hb0 : Below w.heap.size w ((w.alloc (.cells #[.string t] 9)).alloc (.cells #[.slice A2 n2 c2] 22)) := ((Below.refl _ _).alloc (Nat.le_refl _) _).alloc (by simp) _
  have hC := CloneEv_any A n c (l.flatMap evCells) _ (Rows.rd (HL.out.below hb0)) (flat_oneCell evCells_one l) hn HN.out
  have HC := Lib.hid hC
  clear hC
  go_wp2_with (go_at_call 16; refine HC.out.mono ?_; rintro r w1 ⟨A1, c1, rfl, hown1, hb1⟩)
  simp only [World.size_alloc] at hown1 hb1
  have hcap : Cap w1 w.heap.size (w.heap.size + 1) t A2 n2 c2 ss :=
    ⟨(hb1.cell (p := ⟨w.heap.size, 0, none⟩) (by simp; omega)).trans (by simp), (hb1.cell (p := ⟨w.heap.size + 1, 0, none⟩) (by simp)).trans (by simp), (Rd.below HS.out hb0).below (by simpa using hb1)⟩
  have hA1 : ∀ k, k < w.heap.size + 2 → A1 ≠ some ⟨k, 0, none⟩ := by
    intro k hk e
    have := (hown1.lt k (by rw [e]; rfl)).1
    omega
  have hD := DeleteFunc_any A1 n c1 l w.heap.size (w.heap.size + 1) t A2 n2 c2 ss w1 HL.out.1 (own_base hown1 (Nat.zero_le _)) hcap hn2 hn (hA1 _ (by omega)) (hA1 _ (by omega)) (by
    intro h0 a ha
    obtain ⟨b, o, hA, hc⟩ := HS.out.2 h0
    rw [hA] at ha
    cases ha
    have hlen : 0 < (ss.map (Value.int .i64)).length := by rw [HS.out.1]; omega
    have := cell_lt (hc 0 _ (List.getElem?_eq_getElem hlen))
    exact hA1 _ (by simp at this ⊢; omega))
  have HD := Lib.hid hD
  have HOWN1 := Lib.hid hown1
  have HB1 := Lib.hid hb1
  have HA1 := Lib.hid hA1
  clear hD hown1 hcap hb1 hA1
  go_wp2_with (go_at_call 15; refine HD.out.mono ?_; rintro r w2 ⟨m, hm, rfl, hown2, hfr2⟩; have HM := Lib.hid hm; clear hm)
  have hb2 : Below w.heap.size w w2 := (bel_trans hb0 (by simpa using HB1.out)).trans (hfr2.below_of (B := w.heap.size) (by have := HB1.out.size; simp at this; omega) (fun k hk e => HA1.out k (by omega) e))
  have hml : m ≤ n := by rw [HM.out, ← HL.out.1]; exact List.length_filter_le _ _
  clear hfr2
  generalize hkept : l.filter (keepB t ss) = kept at hown2
  have hkok : ∀ e ∈ kept, EvOk w e := by intro e he; rw [← hkept] at he; exact HO.out e (List.mem_filter.1 he).1
  have hkl : kept.length = m := by rw [← hkept]; exact HM.out.symm
  have HK := Lib.hid hkept
  have HKO := Lib.hid hkok
  have HKL := Lib.hid hkl
  clear hkept hkok hkl
  go_loopw [15] (fun i wr => ∃ k : Nat, k ≤ m ∧ i = .int .i64 k ∧ (∃ pre : List Ev, pre.length = k ∧ (∀ e ∈ pre, EvOk wr e) ∧ Alikes (kept.take k) pre ∧
      wr.ownsRow 0 30 8 (.slice A1 m c1) m ((pre ++ kept.drop k).flatMap evCells)) ∧ Below w.heap.size w wr) (fun i _ => m - (intOf i).toNat)
  case atStart => exact ⟨0, Nat.zero_le _, rfl, ⟨[], rfl, fun e he => absurd he List.not_mem_nil, ⟨by simp, fun i e e' h => by simp at h⟩, hown2⟩, hb2⟩
  case round =>
    obtain ⟨k, hk, rfl, ⟨pre, hpl, hpok, hpal, hrow⟩, hb⟩ := hrel
    by_cases hlt : k < m
    · obtain ⟨g, cap, hv, _⟩ := hrow.form (by omega)
      injection hv with hA _ hc
      subst hA
      subst hc
      obtain ⟨e, he⟩ : ∃ e, kept[k]? = some e := ⟨_, List.getElem?_eq_getElem (by rw [HKL.out]; exact hlt)⟩
      have hcur : (pre ++ kept.drop k)[k]? = some e := by rw [List.getElem?_append_right (by omega), List.getElem?_drop, ← he]; congr 1; omega
      have hcl : (pre ++ kept.drop k).length = m := by rw [List.length_append, List.length_drop, HKL.out]; omega
      have hc7 : wr.cell? ⟨g, k * 8 + 7, none⟩ = some (.slice e.dA e.dn e.dc) := by
        rw [hrow.cellAt _ (by omega), flat_get evCells_length _ k 7 e hcur (by omega)]; rfl
      have hok := HKO.out e (List.mem_of_getElem? he)
      have hC := CloneU8_any e.dA e.dn e.dc (e.data.map bv) wr (Rd.below hok.1 hb) (bv_oneCell _) hok.2.1 hok.2.2
      have HC2 := Lib.hid hC
      have HE := Lib.hid he
      have HCUR := Lib.hid hcur
      have HCL := Lib.hid hcl
      have HPL := Lib.hid hpl
      have HPOK := Lib.hid hpok
      have HPAL := Lib.hid hpal
      have HROW := Lib.hid hrow
      have HOK := Lib.hid hok
      clear hC he hcur hcl hpl hpok hpal hrow hok
      go_wp2_with (go_at_call 18; refine HC2.out.mono ?_; rintro r w3 ⟨A3, c3, rfl, hown3, hb3⟩; have hc7' := (hb3.cell (cell_lt hc7)).trans hc7; have hf7 := (bel_own hb3 HROW.out).frozenAt (k * 8 + 7))
      have hown3' := HROW.out
      have hgw : g < wr.heap.size := (HROW.out.lt g rfl).2
      obtain ⟨hst, hgst⟩ := (bel_own hb3 HROW.out).stored (k * 8 + 7) (.slice A3 e.dn c3)
      have hokst : ∀ e1, EvOk wr e1 → EvOk (w3.setCell ⟨g, k * 8 + 7, none⟩ (.slice A3 e.dn c3)) e1 := fun e1 h1 =>
        ⟨By.setCell (Rd.below h1.1 hb3) hc7' (fun x hx => by cases hx) _, h1.2.1, h1.2.2⟩
      refine ⟨⟨k + 1, by omega, by go_num, ⟨pre ++ [{ e with dA := A3, dc := c3 }], by rw [List.length_append, HPL.out]; rfl, ?_, ?_, ?_⟩, ?_⟩, by simp [intOf]; omega⟩
      · intro e1 he1
        rcases List.mem_append.1 he1 with h1 | h1
        · exact hokst e1 (HPOK.out e1 h1)
        · obtain rfl := List.mem_singleton.1 h1
          refine ⟨By.setCell (own_rd hown3) hc7' (fun x hx => by cases hx) _, HOK.out.2.1, fun hA => ?_⟩
          subst hA
          rcases hown3.2 with ⟨_, h0⟩ | ⟨_, _, _, h0, _⟩
          · exact h0
          · cases h0
      · refine ⟨by rw [List.length_append, HPAL.out.1]; simp [HKL.out]; omega, fun i a a' ha ha' => ?_⟩
        by_cases hik : i < k
        · refine HPAL.out.2 i a a' ?_ ?_
          · rw [List.getElem?_take, if_pos hik]
            rw [List.getElem?_take, if_pos (by omega)] at ha
            exact ha
          · rw [List.getElem?_append_left (by rw [HPL.out]; exact hik)] at ha'
            exact ha'
        · have hik2 : i = k := by
            have := (List.getElem?_eq_some_iff.1 ha').1
            rw [List.length_append, HPL.out] at this
            simp at this
            omega
          subst hik2
          rw [List.getElem?_append_right (by rw [HPL.out]; exact Nat.le_refl _), HPL.out, Nat.sub_self] at ha'
          rw [List.getElem?_take, if_pos (by omega), HE.out] at ha
          cases ha
          cases ha'
          exact ⟨rfl, rfl, rfl, rfl, rfl, rfl, rfl, rfl⟩
      · have e2 : (pre ++ kept.drop k).set k { e with dA := A3, dc := c3 } = pre ++ [{ e with dA := A3, dc := c3 }] ++ kept.drop (k + 1) := by
          rw [List.set_append_right _ _ (by rw [HPL.out]; exact Nat.le_refl _), HPL.out, Nat.sub_self, List.append_assoc]
          congr 1
          rw [List.drop_eq_getElem_cons (show k < kept.length by rw [HKL.out]; omega)]
          rfl
        rw [flat_set_cell evCells_length _ k 7 e { e with dA := A3, dc := c3 } _ HCUR.out (by omega) rfl, e2] at hst
        exact hst
      · have hgB : w.heap.size ≤ g := by
          rcases Nat.lt_or_ge g (w.heap.size + 2) with h1 | h1
          · exact absurd rfl (HA1.out g h1)
          · omega
        exact (bel_trans hb hb3).setCell (p := ⟨g, k * 8 + 7, none⟩) hgB _
    · obtain rfl : k = m := by omega
      have HROW := Lib.hid hrow
      have HPAL := Lib.hid hpal
      have HPL := Lib.hid hpl
      have HPOK := Lib.hid hpok
      clear hrow hpal hpl hpok
      go_wp2
      go_ret
      have e1 : kept.drop k = [] := List.drop_eq_nil_of_le (by rw [HKL.out]; exact Nat.le_refl _)
      have e2 : kept.take k = kept := List.take_of_length_le (by rw [HKL.out]; exact Nat.le_refl _)
      have hr := HROW.out
      have ha := HPAL.out
      rw [e1, List.append_nil] at hr
      rw [e2, ← HK.out] at ha
      exact ⟨A1, k, c1, pre, by simp, Rows.of_rd evCells_length HPL.out (own_rd hr), HPOK.out, ha, hb⟩
end Go.Proofs.Ytfdafkjoienpmaa
