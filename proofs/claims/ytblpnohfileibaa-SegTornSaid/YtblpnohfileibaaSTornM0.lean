/- Words for memory (slices that read as lists, owned rows, strings and bytes) that the walks share; no law is proved here. -/
import Derived.WalkKit
import Derived.WalkSpells
import Derived.WalkLawsBesides
import Derived.Lib.Hide
import Derived.Deep.AppendLies
import Derived.Deep.Draws
import Derived.Maps.AppendAt
import Derived.Laws.Rows
import Derived.Lib.OthersKept
import Derived.Lib.Strings
import Derived.WalkSmall
import Derived.Test.YtblpnohfileibaaProg
import Derived.Deep.QuietTactic
import Derived.BigQuiet
import Ieee.Arith
namespace Go.Proofs.Ytblpnohfileibaa
open Go.RowKit

/-- a byte as a value -/
def bv (b : UInt8) : Value := .int .u8 (b.toNat : Int)

/-- The slice value '.slice A n c' reads as the cells xs (elements of `size` cells). -/
def Rd (w : World) (size : Nat) (A : Option Addr) (n : Nat) (xs : List Value) : Prop :=
  xs.length = n * size ∧ (0 < n → ∃ b o, A = some ⟨b, o, none⟩ ∧ ∀ j u, xs[j]? = some u → w.cell? ⟨b, o + j, none⟩ = some u)

/-- bytes -/
def By (w : World) (A : Option Addr) (n : Nat) (l : List UInt8) : Prop := Rd w 1 A n (l.map bv)

section
variable {w w' : World} {size n : Nat} {A : Option Addr} {xs : List Value}

theorem Rd.nil : Rd w size none 0 [] := ⟨by simp, fun h => absurd h (by omega)⟩
theorem Rd.zero : Rd w size A 0 [] := ⟨by simp, fun h => absurd h (by omega)⟩

theorem cell_lt {p : Addr} {v : Value} (h : w.cell? p = some v) : p.block < w.heap.size := World.block_lt_of_cell? w p h

theorem Rd.keep (h : Rd w size A n xs) (hk : ∀ p u, w.cell? p = some u → w'.cell? p = some u) : Rd w' size A n xs :=
  ⟨h.1, fun hn => by
    obtain ⟨b, o, e, hc⟩ := h.2 hn
    exact ⟨b, o, e, fun j u hu => hk _ _ (hc j u hu)⟩⟩
theorem Rd.below (h : Rd w size A n xs) (hb : Below w.heap.size w w') : Rd w' size A n xs :=
  h.keep fun p u hu => (hb.cell (cell_lt hu)).trans hu

theorem By.at_ {l : List UInt8} (h : By w A n l) {k : Nat} (hk : k < n) :
    ∃ b o, A = some ⟨b, o, none⟩ ∧ ∃ x, l[k]? = some x ∧ w.cell? ⟨b, o + k, none⟩ = some (.int .u8 (x.toNat : Int)) := by
  obtain ⟨hl, h2⟩ := h
  obtain ⟨b, o, e, hc⟩ := h2 (by omega)
  have hlt : k < l.length := by simpa using (show k < (l.map bv).length by omega)
  exact ⟨b, o, e, l[k], List.getElem?_eq_getElem hlt, hc k _ (by simp [List.getElem?_eq_getElem hlt, bv])⟩
end

/-! ### strings and bytes -/
theorem foldl_push_bytes (l : List UInt8) : ∀ r : ByteArray, (l.map fun b => (b.toNat : Int)).foldl (fun r n => r.push (UInt8.ofNat n.toNat)) r = ⟨(r.data.toList ++ l).toArray⟩ := by
  induction l with
  | nil => intro r; cases r; simp
  | cons x l ih =>
    intro r
    rw [List.map_cons, List.foldl_cons, ih]
    cases r with
    | mk d => simp [ByteArray.push]

theorem rd_loadCells {P : Program} {w : World} {A : Addr} {n : Nat} {xs : List Value} (hl : xs.length = n) (hc : ∀ j u, xs[j]? = some u → w.cell? (A.add j) = some u) :
    (loadCells A n).run P w = .ok xs.toArray w := by
  have := run_firstCells_some (P := P) w 1 n A n 0 xs (by omega) hc
  simpa [Builtin.firstCells] using this

theorem addr_add (b o j : Nat) : (⟨b, o, none⟩ : Addr).add j = ⟨b, o + j, none⟩ := by
  unfold Addr.add; split <;> simp_all

/-- string(bytes) -/
theorem run_b2s {P : Program} {w : World} {A : Option Addr} {n c : Nat} {l : List UInt8} (h : By w A n l) :
    (Conv.bytesToString (.slice A n c)).run P w = .ok (.string ⟨l.toArray⟩) w := by
  obtain ⟨hl, h2⟩ := h
  have hl' : l.length = n := by simpa using hl
  rcases Nat.eq_zero_or_pos n with h0 | h0
  · subst h0
    have : l = [] := List.eq_nil_of_length_eq_zero hl'
    subst this
    cases A with
    | none => rfl
    | some a =>
      have := run_bytesToString (P := P) w a 0 c [] (by simpa using rd_loadCells (P := P) (w := w) (A := a) (n := 0) (xs := []) rfl (by simp))
      exact this
  · obtain ⟨b, o, rfl, hc⟩ := h2 h0
    have hrun := rd_loadCells (P := P) (w := w) (A := ⟨b, o, none⟩) (n := n) (xs := l.map bv) (by simpa using hl') (by intro j u hu; rw [addr_add]; exact hc j u hu)
    have := run_bytesToString (P := P) w ⟨b, o, none⟩ n c (l.map fun b => (b.toNat : Int)) (by rw [hrun]; simp [bv, Function.comp_def])
    rw [this, foldl_push_bytes]
    simp

theorem own_by {w : World} {base : Nat} {e : TypeId} {A : Option Addr} {n c : Nat} {l : List UInt8} (h : w.ownsRow base e 1 (.slice A n c) n (l.map bv)) : By w A n l := by
  refine ⟨h.1, fun hn => ?_⟩
  obtain ⟨g, cap, hv, _, hlt⟩ := h.form hn
  have hA : A = some ⟨g, 0, none⟩ := by injection hv
  subst hA
  exact ⟨g, 0, rfl, fun j u hu => by rw [← addr_add]; exact h.cells (g := g) rfl j u hu⟩

/-- an owned row's value is a slice -/
theorem own_slice {w : World} {base : Nat} {e : TypeId} {size : Nat} {v : Value} {n : Nat} {xs : List Value} (h : w.ownsRow base e size v n xs) : ∃ A c, v = .slice A n c ∧ n ≤ c ∧ c ≤ maxLen := by
  rcases h.2 with ⟨rfl, rfl⟩ | ⟨g, cap, cur, rfl, _, _, h1, h2, _⟩
  · exact ⟨none, 0, rfl, Nat.le_refl _, by unfold maxLen; omega⟩
  · exact ⟨_, _, rfl, h1, h2⟩

/-! ### append onto an owned row, the source any slice that reads -/
section
variable {P : Program} (w : World)

theorem run_append_nil (base : Nat) (t ty e : TypeId) (i : TypeInfo) (size : Nat) (ht : P.underlying t = some (.slice e)) (hi : P.info? e = some i)
    (v : Value) (n : Nat) (xs : List Value) (hown : w.ownsRow base e size v n xs) (c : Nat) : (Builtin.append_ #[t, t] ty #[v, .slice none 0 c]).run P w = .ok v w := by
  rcases hown.2 with ⟨rfl, rfl⟩ | ⟨g, cap, cur, rfl, _, _, hnc, _⟩
  · simp [Builtin.append_, run_underlying ht, sizeOf, typeInfo, hi, Builtin.lenOf, Builtin.firstCells]
  · simp [Builtin.append_, run_underlying ht, sizeOf, typeInfo, hi, Builtin.lenOf, Builtin.firstCells, hnc, storeCells]

theorem run_append_rd (base : Nat) (t ty e : TypeId) (i : TypeInfo) (z : Value) (size bytes : Nat) (ht : P.underlying t = some (.slice e)) (hi : P.info? e = some i) (hz : i.zero = some z)
    (hsize : i.size = size) (hby : i.bytes = bytes) (hzs : z.cells.size = size) (hsz : 0 < size)
    (v : Value) (n : Nat) (xs : List Value) (hown : w.ownsRow base e size v n xs)
    (A : Option Addr) (m c : Nat) (news : List Value) (hr : Rd w size A m news) (h1 : ∀ u ∈ news, u.oneCell' = true)
    (h63 : n + m ≤ maxLen) (hbytes : (n + m) * bytes ≤ 140737488355328) (hbase : base ≤ w.heap.size) :
    ∃ v' w', (Builtin.append_ #[t, t] ty #[v, .slice A m c]).run P w = .ok v' w' ∧ w'.ownsRow base e size v' (n + m) (xs ++ news) ∧ w.grownBy w' v.ownBlock ∧
      (v'.ownBlock = v.ownBlock ∨ v'.ownBlock = some w.heap.size) ∧ (v' = .slice none 0 0 → n + m = 0) := by
  have hlast : ∀ {v' : Value} {w' : World}, w'.ownsRow base e size v' (n + m) (xs ++ news) → v' = .slice none 0 0 → n + m = 0 := by
    intro v' w' h hv
    subst hv
    rcases h.2 with ⟨_, h0⟩ | ⟨g, cap, cur, hv, _⟩
    · exact h0
    · cases hv
  rcases A with _ | ad
  · have hm : m = 0 := by
      rcases Nat.eq_zero_or_pos m with h0 | h0
      · exact h0
      · obtain ⟨b, o, h, _⟩ := hr.2 h0
        cases h
    subst hm
    have hn : news = [] := List.eq_nil_of_length_eq_zero (by simpa using hr.1)
    subst hn
    exact ⟨v, w, run_append_nil w base t ty e i size ht hi v n xs hown c, by simpa using hown, World.grownBy.refl w _, .inl rfl, fun h => hlast (w' := w) (by simpa using hown) h⟩
  · have hcells : ∀ j u, news[j]? = some u → w.cell? (ad.add j) = some u := by
      intro j u hu
      rcases Nat.eq_zero_or_pos m with h0 | h0
      · subst h0
        have hn : news = [] := List.eq_nil_of_length_eq_zero (by simpa using hr.1)
        subst hn
        simp at hu
      · obtain ⟨b, o, h, hc⟩ := hr.2 h0
        injection h with h
        subst h
        rw [addr_add]
        exact hc j u hu
    obtain ⟨v', w', hrun, h2, h3, _, h5⟩ := run_append_own_at (P := P) w base t ty e i z size bytes ht hi hz hsize hby hzs hsz v n xs hown ad m c news hr.1 hcells h1 h63 hbytes hbase
    exact ⟨v', w', hrun, h2, h3, h5, hlast h2⟩

theorem wpList_append_rd {ops : Array Oper} {rest : List Oper} {o : Oper} {a : Act} {Q : Exit → Act → World → Prop} (hgd : o.guard = none) (s x : Operand) (t : TypeId)
    (ho : o.op = .call { callee := .builtin .append, args := #[s, x], argTypes := #[t, t] })
    (base : Nat) (e : TypeId) (i : TypeInfo) (z : Value) (size bytes : Nat) (ht : P.underlying t = some (.slice e)) (hi : P.info? e = some i) (hz : i.zero = some z)
    (hsize : i.size = size) (hby : i.bytes = bytes) (hzs : z.cells.size = size) (hsz : 0 < size)
    (v : Value) (n : Nat) (xs : List Value) (hs : a.eval s = v) (hown : w.ownsRow base e size v n xs)
    (A : Option Addr) (m c : Nat) (news : List Value) (hx : a.eval x = .slice A m c) (hr : Rd w size A m news) (h1 : ∀ u ∈ news, u.oneCell' = true)
    (h63 : n + m ≤ maxLen) (hbytes : (n + m) * bytes ≤ 140737488355328) (hbase : base ≤ w.heap.size)
    (h : ∀ A' c' w', w'.ownsRow base e size (.slice A' (n + m) c') (n + m) (xs ++ news) → w.grownBy w' v.ownBlock → ((Value.slice A' (n + m) c').ownBlock = v.ownBlock ∨ (Value.slice A' (n + m) c').ownBlock = some w.heap.size) →
      wpList P ops Q rest (a.put o.dst (.slice A' (n + m) c')) w') : wpList P ops Q (o :: rest) a w := by
  obtain ⟨v', w', hrun, h2, h3, h4, _⟩ := run_append_rd (P := P) w base t o.type e i z size bytes ht hi hz hsize hby hzs hsz v n xs hown A m c news hr h1 h63 hbytes hbase
  obtain ⟨A', c', rfl, _, _⟩ := own_slice h2
  refine wpList_plain hgd fun K hK => ?_
  unfold Oper.wp execOp
  simp only [ho, resolve, invoke, builtin, Sem.run_bind, Sem.run_pure, Result.andThen_ok, List.map_toArray, List.map_cons, List.map_nil, hs, hx, hrun]
  exact hK _ _ (h A' c' w' h2 h3 h4)
end

theorem Rd.lit (w : World) (size n : Nat) (cs : Array Value) (e : TypeId) (h : cs.size = n * size) : Rd (w.alloc (.cells cs e)) size (some ⟨w.heap.size, 0, none⟩) n cs.toList := by
  refine ⟨by simpa using h, fun _ => ⟨_, _, rfl, fun j u hu => ?_⟩⟩
  rw [Nat.zero_add, cell_of_row (w.alloc (.cells cs e)) w.heap.size j cs e (0, 0) (heap_alloc_new w _)]
  simpa using hu

theorem bv_oneCell (l : List UInt8) : ∀ u ∈ l.map bv, u.oneCell' = true := by
  intro u hu
  obtain ⟨x, _, rfl⟩ := List.mem_map.1 hu
  rfl

/-! ### runes -/
theorem decode_high (s : ByteArray) (pos : Nat) (h : pos < s.size) (ha : ¬ (s[pos]'h).toNat < 128) : 128 ≤ (Utf8.decode s pos).1 ∧ (Utf8.decode s pos).1 ≤ 1114111 ∧ 1 ≤ (Utf8.decode s pos).2 := by
  have e : s.get! (pos + 0) = s[pos]'h := by
    show s.get! pos = _
    simp [ByteArray.get!, getElem!_pos, h]
    rfl
  unfold Utf8.decode
  simp only [e, ha, if_false]
  have h0 := (s[pos]'h).toNat_lt
  have h1 := (s.get! (pos + 1)).toNat_lt
  have h2 := (s.get! (pos + 2)).toNat_lt
  have h3 := (s.get! (pos + 3)).toNat_lt
  generalize (s[pos]'h).toNat = b0 at *
  generalize (s.get! (pos + 1)).toNat = b1 at *
  generalize (s.get! (pos + 2)).toNat = b2 at *
  generalize (s.get! (pos + 3)).toNat = b3 at *
  repeat' split
  all_goals (simp [Utf8.valid, Utf8.runeError] at *; try omega)

theorem getElem_bs (s : ByteArray) (i : Nat) (h : i < s.size) : s[i]'h = s.data.toList[i]'(by simpa using h) := by
  show s.data[i] = _
  simp

/-- 'next' at a letter of one byte. -/
theorem next_ascii {P : Program} {w : World} {k : Nat} {s : ByteArray} {pos : Nat} {x : UInt8} (hk : w.heap[k]? = some (.stringIter s pos)) (hx : s.data.toList[pos]? = some x) (ha : x.toNat < 128) (ty : TypeId) :
    (Instr.next (.pointer (some ⟨k, 0, none⟩)) true ty).run P w = .ok (.tuple #[.bool true, .int .i64 pos, .int .i32 (x.toNat : Int)]) (w.iterAt k s (pos + 1)) := by
  have hlt : pos < s.size := by have := (List.getElem?_eq_some_iff.1 hx).1; simpa using this
  have he : s[pos]'hlt = x := by rw [getElem_bs]; exact (List.getElem?_eq_some_iff.1 hx).2
  rw [Lib.run_next_ascii_at w k s pos ty hk hlt (by rw [he]; exact ha), he]

/-- 'next' at another one: some rune of 128 or more. -/
theorem next_high {P : Program} {w : World} {k : Nat} {s : ByteArray} {pos : Nat} {x : UInt8} (hk : w.heap[k]? = some (.stringIter s pos)) (hx : s.data.toList[pos]? = some x) (ha : ¬ x.toNat < 128) (ty : TypeId) :
    ∃ (r q : Nat), 128 ≤ r ∧ r ≤ 1114111 ∧ 1 ≤ q ∧ (Instr.next (.pointer (some ⟨k, 0, none⟩)) true ty).run P w = .ok (.tuple #[.bool true, .int .i64 pos, .int .i32 (r : Int)]) (w.iterAt k s (pos + q)) := by
  have hlt : pos < s.size := by have := (List.getElem?_eq_some_iff.1 hx).1; simpa using this
  have he : s[pos]'hlt = x := by rw [getElem_bs]; exact (List.getElem?_eq_some_iff.1 hx).2
  obtain ⟨h1, h2, h3⟩ := decode_high s pos hlt (by rw [he]; exact ha)
  exact ⟨_, _, h1, h2, h3, Lib.run_next_any_at w k s pos ty hk hlt⟩

theorem next_end {P : Program} {w : World} {k : Nat} {s : ByteArray} {pos : Nat} (hk : w.heap[k]? = some (.stringIter s pos)) (hx : s.data.toList.length ≤ pos) (ty : TypeId) :
    (Instr.next (.pointer (some ⟨k, 0, none⟩)) true ty).run P w = .ok (.tuple #[.bool false]) w :=
  Lib.run_next_end_at w k s pos ty hk (by have : s.size = s.data.toList.length := by simp
                                          omega)

theorem ownsRow_iterAt' {w : World} {base : Nat} {e : TypeId} {size : Nat} {v : Value} {n : Nat} {xs : List Value} (h : w.ownsRow base e size v n xs) {k : Nat} (hk : v.ownBlock ≠ some k) (s : ByteArray) (p : Nat) : (w.iterAt k s p).ownsRow base e size v n xs := by
  refine ⟨h.1, ?_⟩
  rcases h.2 with hn | ⟨g, cap, cur, rfl, hb, hg, rest⟩
  · exact .inl hn
  · refine .inr ⟨g, cap, cur, rfl, hb, ?_, rest⟩
    rw [Lib.iterAt_other _ _ _ _ _ (by simpa [Value.ownBlock] using hk)]
    exact hg

theorem bel_trans {a b c : World} (h : Below a.heap.size a b) (k : Below b.heap.size b c) : Below a.heap.size a c := h.trans (k.mono h.size)
theorem bel_rfl {a : World} : Below a.heap.size a a := Below.refl _ _

theorem ret_bool {a b : Bool} (h : a = b) : Ending.returned (.bool a) = Ending.returned (.bool b) := by rw [h]

/-! ### rows of things of k cells -/
def Rows {α : Type} (k : Nat) (enc : α → List Value) (w : World) (A : Option Addr) (n : Nat) (l : List α) : Prop :=
  l.length = n ∧ (∀ a, (enc a).length = k) ∧ (0 < n → ∃ b o, A = some ⟨b, o, none⟩ ∧ ∀ j a, l[j]? = some a → ∀ i u, (enc a)[i]? = some u → w.cell? ⟨b, o + (j * k + i), none⟩ = some u)

section
variable {α : Type} {k : Nat} {enc : α → List Value} {w w' : World} {A : Option Addr} {n : Nat} {l : List α}

theorem flat_length (hk : ∀ a, (enc a).length = k) (l : List α) : (l.flatMap enc).length = l.length * k := by
  induction l with
  | nil => simp
  | cons x l ih => rw [List.flatMap_cons, List.length_append, ih, hk, List.length_cons, Nat.add_mul]; omega
theorem flat_get (hk : ∀ a, (enc a).length = k) (l : List α) : ∀ (j i : Nat) (a : α), l[j]? = some a → i < k → (l.flatMap enc)[j * k + i]? = (enc a)[i]? := by
  induction l with
  | nil => intro j i a h; simp at h
  | cons x l ih =>
    intro j i a h hi
    rw [List.flatMap_cons]
    cases j with
    | zero =>
      simp at h
      subst h
      rw [Nat.zero_mul, Nat.zero_add, List.getElem?_append_left (by rw [hk]; exact hi)]
    | succ j =>
      have e : (j + 1) * k + i = k + (j * k + i) := by rw [Nat.add_mul]; omega
      rw [e, List.getElem?_append_right (by rw [hk]; omega), hk, Nat.add_sub_cancel_left]
      exact ih j i a (by simpa using h) hi
theorem Rows.rd (h : Rows k enc w A n l) : Rd w k A n (l.flatMap enc) := by
  refine ⟨by rw [flat_length h.2.1, h.1], fun hn => ?_⟩
  obtain ⟨b, o, e, hc⟩ := h.2.2 hn
  refine ⟨b, o, e, fun q u hu => ?_⟩
  have hlt := (List.getElem?_eq_some_iff.1 hu).1
  rw [flat_length h.2.1] at hlt
  have hk0 : 0 < k := by
    rcases Nat.eq_zero_or_pos k with h0 | h0
    · rw [h0] at hlt; omega
    · exact h0
  have hq : q / k < l.length := Nat.div_lt_of_lt_mul (by rw [Nat.mul_comm]; exact hlt)
  have e1 : q = q / k * k + q % k := by rw [Nat.mul_comm]; exact (Nat.div_add_mod q k).symm
  rw [e1, flat_get h.2.1 l (q / k) (q % k) l[q / k] (List.getElem?_eq_getElem hq) (Nat.mod_lt _ hk0)] at hu
  rw [e1]
  exact hc _ _ (List.getElem?_eq_getElem hq) _ _ hu
theorem Rows.of_rd (hk : ∀ a, (enc a).length = k) (hl : l.length = n) (h : Rd w k A n (l.flatMap enc)) : Rows k enc w A n l := by
  refine ⟨hl, hk, fun hn => ?_⟩
  obtain ⟨b, o, e, hc⟩ := h.2 hn
  refine ⟨b, o, e, fun j a ha i u hu => hc _ _ ?_⟩
  have hi := (List.getElem?_eq_some_iff.1 hu).1
  rw [hk] at hi
  rw [flat_get hk l j i a ha hi, hu]
theorem Rows.keep (h : Rows k enc w A n l) (hk : ∀ p u, w.cell? p = some u → w'.cell? p = some u) : Rows k enc w' A n l :=
  ⟨h.1, h.2.1, fun hn => by
    obtain ⟨b, o, e, hc⟩ := h.2.2 hn
    exact ⟨b, o, e, fun j a ha i u hu => hk _ _ (hc j a ha i u hu)⟩⟩
theorem Rows.below (h : Rows k enc w A n l) (hb : Below w.heap.size w w') : Rows k enc w' A n l :=
  h.keep fun _ _ hu => (hb.cell (cell_lt hu)).trans hu
theorem Rows.at_ (h : Rows k enc w A n l) {j : Nat} (hj : j < n) : ∃ b o a, A = some ⟨b, o, none⟩ ∧ l[j]? = some a ∧ ∀ i u, (enc a)[i]? = some u → w.cell? ⟨b, o + (j * k + i), none⟩ = some u := by
  obtain ⟨b, o, e, hc⟩ := h.2.2 (by omega)
  have hjl : j < l.length := by rw [h.1]; exact hj
  exact ⟨b, o, l[j], e, List.getElem?_eq_getElem hjl, hc j _ (List.getElem?_eq_getElem hjl)⟩
end

/-- a whole struct is loaded -/
theorem run_load_agg {P : Program} {w : World} (t : TypeId) (d : TypeDesc) (hu : P.underlying t = some d) (hd : (match d with | .struct _ | .array _ _ => true | _ => false) = true) {b o : Nat} (cs : List Value)
    (hi : (P.info? t).map (·.size) = some cs.length) (hc : ∀ i u, cs[i]? = some u → w.cell? ⟨b, o + i, none⟩ = some u) :
    (Instr.loadAt t (.pointer (some ⟨b, o, none⟩))).run P w = .ok (.agg cs.toArray) w := by
  have hl : (loadCells ⟨b, o, none⟩ cs.length).run P w = .ok cs.toArray w := rd_loadCells rfl (by intro j u hu; rw [addr_add]; exact hc j u hu)
  cases hq : P.info? t with
  | none => simp [hq] at hi
  | some i =>
    have hs : i.size = cs.length := by simpa [hq] using hi
    have hagg : (isAgg t).run P w = .ok true w := by
      unfold isAgg
      rw [Sem.run_bind, run_underlying hu w]
      cases d <;> simp_all
    simp [Instr.loadAt, Instr.sureAddr, loadVar, Sem.run_bind, hagg, sizeOf, typeInfo, hq, hs, hl]

/-- integers of Go's int -/
def Ints (w : World) (A : Option Addr) (n : Nat) (l : List Int) : Prop := Rd w 1 A n (l.map (Value.int .i64))
theorem Ints.at_ {w : World} {A : Option Addr} {n : Nat} {l : List Int} (h : Ints w A n l) {k : Nat} (hk : k < n) :
    ∃ b o x, A = some ⟨b, o, none⟩ ∧ l[k]? = some x ∧ w.cell? ⟨b, o + k, none⟩ = some (.int .i64 x) := by
  obtain ⟨hl, h2⟩ := h
  obtain ⟨b, o, e, hc⟩ := h2 (by omega)
  have hlt : k < l.length := by simpa using (show k < (l.map (Value.int .i64)).length by omega)
  exact ⟨b, o, l[k], e, List.getElem?_eq_getElem hlt, hc k _ (by simp [List.getElem?_eq_getElem hlt])⟩

/-! ### what may have turned: the blocks in S, and what is new -/
structure Fr (S : Nat → Prop) (w w' : World) : Prop where
  os : w'.os = w.os
  tape : w'.tape = w.tape
  output : w'.output = w.output
  size : w.heap.size ≤ w'.heap.size
  block : ∀ k, k < w.heap.size → ¬ S k → w'.heap[k]? = w.heap[k]?

section
variable {S S' : Nat → Prop} {w w' w1 w2 w3 : World}
theorem Fr.refl (S : Nat → Prop) (w : World) : Fr S w w := ⟨rfl, rfl, rfl, Nat.le_refl _, fun _ _ _ => rfl⟩
theorem Fr.trans (h : Fr S w1 w2) (k : Fr S w2 w3) : Fr S w1 w3 :=
  ⟨k.os.trans h.os, k.tape.trans h.tape, k.output.trans h.output, Nat.le_trans h.size k.size, fun i hi hS => (k.block i (Nat.lt_of_lt_of_le hi h.size) hS).trans (h.block i hi hS)⟩
theorem Fr.mono (h : Fr S w w') (hS : ∀ k, k < w.heap.size → S k → S' k) : Fr S' w w' := ⟨h.os, h.tape, h.output, h.size, fun k hk hn => h.block k hk fun hs => hn (hS k hk hs)⟩
theorem Fr.of_below (h : Below w.heap.size w w') : Fr S w w' := ⟨h.os, h.tape, h.output, h.size, fun k hk _ => h.block k hk⟩
theorem Fr.below (h : Fr S w w') (hS : ∀ k, k < w.heap.size → ¬ S k) : Below w.heap.size w w' := ⟨h.os, h.tape, h.output, h.size, fun k hk => h.block k hk (hS k hk)⟩
theorem Fr.below_of {B : Nat} (h : Fr S w w') (hB : B ≤ w.heap.size) (hS : ∀ k, k < B → ¬ S k) : Below B w w' := ⟨h.os, h.tape, h.output, h.size, fun k hk => h.block k (Nat.lt_of_lt_of_le hk hB) (hS k hk)⟩
theorem Fr.of_grown {row : Option Nat} (h : w.grownBy w' row) (hS : ∀ g, row = some g → S g) : Fr S w w' := ⟨h.os, h.tape, h.output, h.size, fun k hk hn => h.block k hk fun e => hn (hS k e.symm)⟩
theorem Fr.alloc (o : Obj) : Fr S w (w.alloc o) := Fr.of_below ((Below.refl _ _).alloc (Nat.le_refl _) o)
theorem Fr.drewN (n : Nat) : Fr S w (w.drewN n) := Fr.of_below (below_drewN (Below.refl _ _) n)
theorem Fr.setCell {p : Addr} (hp : S p.block ∨ w.heap.size ≤ p.block) (u : Value) : Fr S w (w.setCell p u) :=
  ⟨rfl, rfl, rfl, by simp, fun k hk hn => Below.heap_setCell w p u k (fun e => by subst e; rcases hp with h | h; exact hn h; omega)⟩
theorem Fr.cell (h : Fr S w w') {p : Addr} {v : Value} (hc : w.cell? p = some v) (hn : ¬ S p.block) : w'.cell? p = some v :=
  (World.cell?_of_block (h.block p.block (cell_lt hc) hn)).trans hc
theorem Fr.rd {size n : Nat} {A : Option Addr} {xs : List Value} (h : Fr S w w') (hr : Rd w size A n xs) (hn : 0 < n → ∀ a, A = some a → ¬ S a.block) : Rd w' size A n xs :=
  ⟨hr.1, fun hp => by
    obtain ⟨b, o, e, hc⟩ := hr.2 hp
    exact ⟨b, o, e, fun j u hu => h.cell (hc j u hu) (by have := hn hp _ e; exact this)⟩⟩
theorem Fr.own {base : Nat} {e : TypeId} {size : Nat} {v : Value} {n : Nat} {xs : List Value} (h : Fr S w w') (ho : w.ownsRow base e size v n xs) (hn : ∀ g, v.ownBlock = some g → ¬ S g) : w'.ownsRow base e size v n xs := by
  refine ⟨ho.1, ?_⟩
  rcases ho.2 with h0 | ⟨g, cap, cur, rfl, hb, hg, rest⟩
  · exact .inl h0
  · refine .inr ⟨g, cap, cur, rfl, hb, ?_, rest⟩
    rw [h.block g (Array.getElem?_eq_some_iff.1 hg).1 (hn g rfl)]
    exact hg
end

/-- an owned row read -/
theorem own_rd {w : World} {base : Nat} {e : TypeId} {size : Nat} {A : Option Addr} {n c : Nat} {xs : List Value} (h : w.ownsRow base e size (.slice A n c) n xs) : Rd w size A n xs := by
  refine ⟨h.1, fun hn => ?_⟩
  obtain ⟨g, cap, hv, _, hlt⟩ := h.form hn
  have hA : A = some ⟨g, 0, none⟩ := by injection hv
  subst hA
  exact ⟨g, 0, rfl, fun j u hu => by rw [← addr_add]; exact h.cells (g := g) rfl j u hu⟩
theorem own_base {w : World} {base base' : Nat} {e : TypeId} {size : Nat} {v : Value} {n : Nat} {xs : List Value} (h : w.ownsRow base e size v n xs) (hb : base' ≤ base) : w.ownsRow base' e size v n xs := by
  refine ⟨h.1, ?_⟩
  rcases h.2 with h0 | ⟨g, cap, cur, rfl, hg, rest⟩
  · exact .inl h0
  · exact .inr ⟨g, cap, cur, rfl, by omega, rest⟩
theorem flat_oneCell {α : Type} {enc : α → List Value} (h : ∀ a, ∀ u ∈ enc a, u.oneCell' = true) (l : List α) : ∀ u ∈ l.flatMap enc, u.oneCell' = true := by
  intro u hu
  obtain ⟨a, _, hm⟩ := List.mem_flatMap.1 hu
  exact h a u hm

/-- a whole struct is stored into an owned row -/
theorem run_store_agg {P : Program} {w : World} (t : TypeId) {g o : Nat} {cur : Array Value} {t' : TypeId} (hg : w.heap[g]? = some (.cells cur t' (0, 0))) (cs : List Value) (hi : (P.info? t).map (·.size) = some cs.length)
    (hfit : o + cs.length ≤ cur.size) (h1 : ∀ v ∈ cs, v.oneCell' = true) :
    (Instr.storeAt t (.pointer (some ⟨g, o, none⟩)) (.agg cs.toArray)).run P w = .ok () (w.setRow g (cur.toList.take o ++ cs ++ cur.toList.drop (o + cs.length)).toArray) := by
  have hst := run_storeCells_at P g o t' cs 0 cur w hg (by simpa using hfit) h1
  simp only [Nat.add_zero] at hst
  cases hq : P.info? t with
  | none => simp [hq] at hi
  | some i =>
    have hs : i.size = cs.length := by simpa [hq] using hi
    simp [Instr.storeAt, Instr.sureAddr, storeVar, sizeOf, typeInfo, hq, hs, Value.cells, hst]

theorem heap_setRow {w : World} {g : Nat} {cur cs : Array Value} {t : TypeId} {fr : Nat × Nat} (hg : w.heap[g]? = some (.cells cur t fr)) : (w.setRow g cs).heap[g]? = some (.cells cs t fr) := by
  simp [World.setRow, Array.getElem?_modify, hg]
theorem heap_setRow_other {w : World} {g k : Nat} {cs : Array Value} (h : k ≠ g) : (w.setRow g cs).heap[k]? = w.heap[k]? := by
  simp only [World.setRow, Array.getElem?_modify]
  rw [if_neg (by omega)]
theorem grown_setRow (w : World) (g : Nat) (cs : Array Value) : w.grownBy (w.setRow g cs) (some g) :=
  ⟨rfl, rfl, rfl, by simp, fun k _ hk => heap_setRow_other (fun e => hk (by rw [e]))⟩

/-- element i of an owned row is replaced by other cells -/
theorem own_splice {P : Program} {w : World} {base : Nat} {e : TypeId} {size g n c : Nat} {xs : List Value} (h : w.ownsRow base e size (.slice (some ⟨g, 0, none⟩) n c) n xs) (cs : List Value) (o : Nat) (hi : (P.info? e).map (·.size) = some cs.length)
    (hfit : o + cs.length ≤ n * size) (h1 : ∀ v ∈ cs, v.oneCell' = true) :
    ∃ w', (Instr.storeAt e (.pointer (some ⟨g, o, none⟩)) (.agg cs.toArray)).run P w = .ok () w' ∧ w'.ownsRow base e size (.slice (some ⟨g, 0, none⟩) n c) n (xs.take o ++ cs ++ xs.drop (o + cs.length)) ∧ w.grownBy w' (some g) := by
  rcases h.2 with ⟨h', _⟩ | ⟨g', cap', cur, h', hb, hg, hnc, hcm, hcs, htake⟩
  · simp at h'
  · simp only [Value.slice.injEq, Option.some.injEq, Addr.mk.injEq, and_true, true_and] at h'
    obtain ⟨rfl, rfl⟩ := h'
    have hle : n * size ≤ c * size := Nat.mul_le_mul_right _ hnc
    have hcl : cur.toList.length = c * size := by simpa using hcs
    refine ⟨_, run_store_agg e hg cs hi (by omega) h1, ⟨?_, .inr ⟨g, c, _, rfl, hb, heap_setRow hg, hnc, hcm, ?_, ?_⟩⟩, grown_setRow _ _ _⟩
    · simp [h.1]; omega
    · simp [hcs]; omega
    · rw [← htake]
      apply List.ext_getElem?
      intro j
      simp only [List.getElem?_take, List.getElem?_append, List.getElem?_drop, List.length_append, List.length_take, hcl]
      repeat' split
      all_goals first
        | rfl
        | omega
        | (congr 1; omega)
        | (simp; omega)
        | (rw [List.getElem?_eq_none] <;> omega)

/-- a whole struct stored into an owned row, as an arm of the walk -/
theorem wpList_splice {P : Program} {ops : Array Oper} {rest : List Oper} {o : Oper} {a : Act} {Q : Exit → Act → World → Prop} {w : World} (hgd : o.guard = none) (t : TypeId) (p v : Operand) (ho : o.op = .store t p v)
    (base : Nat) (size g n c : Nat) (xs : List Value) (off : Nat) (cs : List Value) (hp : a.eval p = .pointer (some ⟨g, off, none⟩)) (hv : a.eval v = .agg cs.toArray) (h : w.ownsRow base t size (.slice (some ⟨g, 0, none⟩) n c) n xs)
    (hi : (P.info? t).map (·.size) = some cs.length) (hfit : off + cs.length ≤ n * size) (h1 : ∀ v ∈ cs, v.oneCell' = true)
    (hK : ∀ w', w'.ownsRow base t size (.slice (some ⟨g, 0, none⟩) n c) n (xs.take off ++ cs ++ xs.drop (off + cs.length)) → w.grownBy w' (some g) → wpList P ops Q rest (a.put o.dst undef) w') : wpList P ops Q (o :: rest) a w := by
  obtain ⟨w', hrun, h2, h3⟩ := own_splice (P := P) h cs off hi hfit h1
  refine wpList_plain hgd fun K hK' => ?_
  unfold Oper.wp execOp
  simp only [ho, hp, hv, Sem.run_bind, Sem.run_pure, Result.andThen_ok, hrun]
  exact hK' _ _ (hK w' h2 h3)

theorem flat_set {α : Type} {k : Nat} {enc : α → List Value} (hk : ∀ a, (enc a).length = k) (l : List α) (i : Nat) (a : α) (hi : i < l.length) :
    (l.flatMap enc).take (i * k) ++ enc a ++ (l.flatMap enc).drop (i * k + (enc a).length) = (l.set i a).flatMap enc := by
  induction l generalizing i with
  | nil => simp at hi
  | cons x l ih =>
    cases i with
    | zero => simp [hk, List.drop_append, hk x]
    | succ i =>
      have e : (i + 1) * k = k + i * k := by rw [Nat.add_mul]; omega
      have h2 := ih i (by simpa using hi)
      rw [hk] at h2
      simp only [List.flatMap_cons, List.set_cons_succ, e, hk]
      rw [← h2, List.take_append, List.drop_append, hk, List.take_of_length_le (by rw [hk]; omega), List.drop_eq_nil_of_le (by rw [hk]; omega)]
      simp only [List.nil_append, List.append_assoc]
      congr 2
      · congr 1; omega
      · congr 2; omega

theorem bel_own {w w' : World} {base : Nat} {e : TypeId} {size : Nat} {v : Value} {n : Nat} {xs : List Value} (hb : Below w.heap.size w w') (ho : w.ownsRow base e size v n xs) : w'.ownsRow base e size v n xs :=
  Fr.own (S := fun _ => False) (Fr.of_below hb) ho (fun _ _ h => h)
theorem filter_take_succ {α : Type} (p : α → Bool) (l : List α) (j : Nat) (e : α) (he : l[j]? = some e) : (l.take (j + 1)).filter p = (l.take j).filter p ++ if p e then [e] else [] := by
  rw [List.take_add_one, he, List.filter_append]
  simp [List.filter_cons]

/-- cells stored into an owned row -/
theorem own_cells {P : Program} {w : World} {base : Nat} {e : TypeId} {size g n c : Nat} {xs : List Value} (h : w.ownsRow base e size (.slice (some ⟨g, 0, none⟩) n c) n xs) (cs : List Value) (o : Nat)
    (hfit : o + cs.length ≤ n * size) (h1 : ∀ v ∈ cs, v.oneCell' = true) :
    ∃ w', (storeCells ⟨g, o, none⟩ cs).run P w = .ok () w' ∧ w'.ownsRow base e size (.slice (some ⟨g, 0, none⟩) n c) n (xs.take o ++ cs ++ xs.drop (o + cs.length)) ∧ w.grownBy w' (some g) := by
  rcases h.2 with ⟨h', _⟩ | ⟨g', cap', cur, h', hb, hg, hnc, hcm, hcs, htake⟩
  · simp at h'
  · simp only [Value.slice.injEq, Option.some.injEq, Addr.mk.injEq, and_true, true_and] at h'
    obtain ⟨rfl, rfl⟩ := h'
    have hle : n * size ≤ c * size := Nat.mul_le_mul_right _ hnc
    have hcl : cur.toList.length = c * size := by simpa using hcs
    refine ⟨_, (by have := run_storeCells_at P g o e cs 0 cur w hg (by simp; omega) h1; simpa using this), ⟨?_, .inr ⟨g, c, _, rfl, hb, heap_setRow hg, hnc, hcm, ?_, ?_⟩⟩, grown_setRow _ _ _⟩
    · simp [h.1]; omega
    · simp [hcs]; omega
    · rw [← htake]
      apply List.ext_getElem?
      intro j
      simp only [List.getElem?_take, List.getElem?_append, List.getElem?_drop, List.length_append, List.length_take, hcl]
      repeat' split
      all_goals first
        | rfl
        | omega
        | (congr 1; omega)
        | (simp; omega)
        | (rw [List.getElem?_eq_none] <;> omega)

theorem wpList_clear_own {P : Program} {ops : Array Oper} {rest : List Oper} {o : Oper} {a : Act} {Q : Exit → Act → World → Prop} {w : World} (hgd : o.guard = none) (x : Operand) (t : TypeId) (ho : o.op = .call { callee := .builtin .clear, args := #[x], argTypes := #[t] })
    (e : TypeId) (ht : P.underlying t = some (.slice e)) (z : Value) (hz : ∀ w, (zeroValue e).run P w = .ok z w) (size : Nat) (hzs : z.cells.size = size) (hz1 : ∀ u ∈ z.cells.toList, u.oneCell' = true)
    (base g n c off m c' : Nat) (xs : List Value) (hx : a.eval x = .slice (some ⟨g, off, none⟩) m c') (h : w.ownsRow base e size (.slice (some ⟨g, 0, none⟩) n c) n xs) (hm : 0 < m) (hfit : off + m * size ≤ n * size)
    (hK : ∀ w' ys, ys.length = m * size → w'.ownsRow base e size (.slice (some ⟨g, 0, none⟩) n c) n (xs.take off ++ ys ++ xs.drop (off + m * size)) → w.grownBy w' (some g) → wpList P ops Q rest (a.put o.dst (.tuple #[])) w') : wpList P ops Q (o :: rest) a w := by
  have hlen : (Builtin.zeroCells z.cells m).toList.length = m * size := by rw [Array.length_toList, size_zeroCells, hzs]
  have h1 : ∀ v ∈ (Builtin.zeroCells z.cells m).toList, v.oneCell' = true := by
    intro v hv
    simp only [Builtin.zeroCells, Array.toList_map, List.mem_map] at hv
    obtain ⟨i, hi, rfl⟩ := hv
    have hi2 : i < m * z.cells.size := by simpa using hi
    have hpos : 0 < z.cells.size := by
      rcases Nat.eq_zero_or_pos z.cells.size with h0 | h0
      · rw [h0] at hi2; omega
      · exact h0
    have hlt : i % z.cells.size < z.cells.size := Nat.mod_lt _ hpos
    rw [getElem!_pos z.cells _ hlt]
    exact hz1 _ (Array.getElem_mem_toList hlt)
  obtain ⟨w', hrun, h2, h3⟩ := own_cells (P := P) h _ off (by rw [hlen]; exact hfit) h1
  obtain ⟨m', rfl⟩ : ∃ m', m = m' + 1 := ⟨m - 1, by omega⟩
  refine wpList_plain hgd fun K hK' => ?_
  unfold Oper.wp execOp
  have hcl : (Builtin.clear_ #[t] o.type #[.slice (some ⟨g, off, none⟩) (m' + 1) c']).run P w = .ok (.tuple #[]) w' := by
    simp [Builtin.clear_, run_underlying ht, hz, hrun]
  simp only [ho, resolve, invoke, builtin, Sem.run_bind, Sem.run_pure, Result.andThen_ok, List.map_toArray, List.map_cons, List.map_nil, hx, hcl]
  exact hK' _ _ (hK w' _ hlen (by rw [hlen] at h2; exact h2) h3)

/-- the head of an owned row -/
theorem own_cut {w : World} {base : Nat} {e : TypeId} {size g n c : Nat} {xs : List Value} (h : w.ownsRow base e size (.slice (some ⟨g, 0, none⟩) n c) n xs) (m : Nat) (hm : m ≤ n) :
    w.ownsRow base e size (.slice (some ⟨g, 0, none⟩) m c) m (xs.take (m * size)) := by
  have hle : m * size ≤ n * size := Nat.mul_le_mul_right _ hm
  refine ⟨by rw [List.length_take, h.1]; omega, ?_⟩
  rcases h.2 with ⟨h', _⟩ | ⟨g', cap', cur, h', hb, hg, hnc, hcm, hcs, htake⟩
  · simp at h'
  · simp only [Value.slice.injEq, Option.some.injEq, Addr.mk.injEq, and_true, true_and] at h'
    obtain ⟨rfl, rfl⟩ := h'
    exact .inr ⟨g, c, cur, rfl, hb, hg, by omega, hcm, hcs, by rw [← htake, List.take_take, Nat.min_eq_left hle]⟩

/-- one cell of one thing in a row is set -/
theorem flat_set_cell {α : Type} {k : Nat} {enc : α → List Value} (hk : ∀ a, (enc a).length = k) (l : List α) (i q : Nat) (a a' : α) (u : Value) (hi : l[i]? = some a) (hq : q < k) (ha : enc a' = (enc a).set q u) :
    (l.flatMap enc).set (i * k + q) u = (l.set i a').flatMap enc := by
  induction l generalizing i with
  | nil => simp at hi
  | cons x l ih =>
    cases i with
    | zero =>
      simp at hi
      subst hi
      simp only [List.flatMap_cons, List.set_cons_zero, ha]
      rw [Nat.zero_mul, Nat.zero_add, List.set_append_left _ _ (by rw [hk]; exact hq)]
    | succ i =>
      have h2 := ih i (by simpa using hi)
      simp only [List.flatMap_cons, List.set_cons_succ]
      rw [← h2, List.set_append_right _ _ (by rw [hk, Nat.add_mul]; omega), hk]
      congr 2
      rw [Nat.add_mul]; omega

/-- bytes stay where a cell that is no byte is written -/
theorem By.setCell {w : World} {A : Option Addr} {n : Nat} {l : List UInt8} (h : By w A n l) {p : Addr} {v : Value} (hc : w.cell? p = some v) (hv : ∀ x, v ≠ bv x) (u : Value) : By (w.setCell p u) A n l :=
  ⟨h.1, fun hn => by
    obtain ⟨b, o, e, hb⟩ := h.2 hn
    refine ⟨b, o, e, fun j y hy => ?_⟩
    have h1 := hb j y hy
    rw [World.cell?_setCell_other _ _ _ _ ?_]
    · exact h1
    · intro e2
      rw [← e2, hc] at h1
      obtain ⟨x, hx, hxy⟩ := List.mem_map.1 (List.mem_of_getElem? hy)
      injection h1 with h1
      exact hv x (h1.trans hxy.symm)⟩
end Go.Proofs.Ytblpnohfileibaa

/- A block of cells that is not frozen, as a list: what a pointer to a struct leads to. -/
namespace Go.Proofs.Ytblpnohfileibaa
open Go.RowKit

/-- block B holds these cells, and may be written -/
def Bl (w : World) (B : Nat) (cs : List Value) : Prop := ∃ t, w.heap[B]? = some (.cells cs.toArray t (0, 0))

section
variable {w w' : World} {B : Nat} {cs : List Value} {S : Nat → Prop}

theorem Bl.lt (h : Bl w B cs) : B < w.heap.size := by
  obtain ⟨t, h⟩ := h
  exact (Array.getElem?_eq_some_iff.1 h).1
theorem Bl.cell (h : Bl w B cs) {i : Nat} {v : Value} (hv : cs[i]? = some v) : w.cell? ⟨B, i, none⟩ = some v := by
  obtain ⟨t, h⟩ := h
  simp [World.cell?, h, hv]
theorem Bl.frozen (h : Bl w B cs) (i : Nat) : w.frozen? ⟨B, i, none⟩ = false := by
  obtain ⟨t, h⟩ := h
  simp [World.frozen?, h]
theorem Bl.fr (h : Bl w B cs) (hf : Fr S w w') (hS : ¬ S B) : Bl w' B cs := by
  obtain ⟨t, h1⟩ := h
  exact ⟨t, (hf.block B (Bl.lt ⟨t, h1⟩) hS).trans h1⟩
theorem Bl.below (h : Bl w B cs) (hb : Below w.heap.size w w') : Bl w' B cs := by
  obtain ⟨t, h1⟩ := h
  exact ⟨t, (hb.block B (Bl.lt ⟨t, h1⟩)).trans h1⟩
theorem Bl.set (h : Bl w B cs) (k : Nat) (v : Value) : Bl (w.setCell ⟨B, k, none⟩ v) B (cs.set k v) := by
  obtain ⟨t, h⟩ := h
  refine ⟨t, ?_⟩
  have hlt := (Array.getElem?_eq_some_iff.1 h).1
  simp only [World.setCell, Array.getElem?_modify, h, if_true]
  simp
theorem Bl.other (h : Bl w B cs) {p : Addr} (hp : p.block ≠ B) (v : Value) : Bl (w.setCell p v) B cs := by
  obtain ⟨t, h⟩ := h
  exact ⟨t, (Below.heap_setCell _ _ _ _ (Ne.symm hp)).trans h⟩
theorem Bl.new (w : World) (c : Array Value) (t : TypeId) : Bl (w.alloc (.cells c t)) w.heap.size c.toList := ⟨t, by simpa using heap_alloc_new w (.cells c t)⟩
theorem Bl.newL (w : World) (cs : List Value) (t : TypeId) : Bl (w.alloc (.cells cs.toArray t)) w.heap.size cs := ⟨t, heap_alloc_new w (.cells cs.toArray t)⟩
end

/-- a whole struct stored into a block, as an arm of the walk -/
theorem wpList_stBl {P : Program} {ops : Array Oper} {rest : List Oper} {o : Oper} {a : Act} {Q : Exit → Act → World → Prop} {w : World} (hgd : o.guard = none) (t : TypeId) (p v : Operand) (ho : o.op = .store t p v)
    (B : Nat) (xs cs : List Value) (hp : a.eval p = .pointer (some ⟨B, 0, none⟩)) (hv : a.eval v = .agg cs.toArray) (h : Bl w B xs)
    (hi : (P.info? t).map (·.size) = some cs.length) (hl : xs.length = cs.length) (h1 : ∀ v ∈ cs, v.oneCell' = true)
    (hK : ∀ w', Bl w' B cs → Fr (· = B) w w' → w'.heap.size = w.heap.size → wpList P ops Q rest (a.put o.dst undef) w') : wpList P ops Q (o :: rest) a w := by
  obtain ⟨t', hg⟩ := h
  have hrun := run_store_agg (P := P) t hg cs hi (o := 0) (by simp [hl]) h1
  refine wpList_plain hgd fun K hK' => ?_
  unfold Oper.wp execOp
  simp only [ho, hp, hv, Sem.run_bind, Sem.run_pure, Result.andThen_ok, hrun]
  refine hK' _ _ (hK _ ⟨t', ?_⟩ (Fr.of_grown (grown_setRow _ _ _) (fun g hg => by cases hg; rfl)) (by simp [World.setRow]))
  rw [heap_setRow hg]
  simp [hl]
end Go.Proofs.Ytblpnohfileibaa

/- The cursor of the package octet: what it reads. -/
namespace Go.Proofs.Ytblpnohfileibaa
open Go.RowKit

/-- a cursor: all bytes, the place, the first error -/
structure CurS where
  l : List UInt8
  p : Nat
  err : Int

def curCells (A : Option Addr) (n c : Nat) (s : CurS) : List Value := [.slice A n c, .int .i64 s.p, .int .i64 s.err]
/-- the cursor at block B -/
def Cur (w : World) (B : Nat) (s : CurS) : Prop :=
  ∃ A n c, Bl w B (curCells A n c s) ∧ By w A n s.l ∧ (0 < n → ∀ a, A = some a → a.block < B) ∧ s.p ≤ n ∧ n ≤ c ∧ n ≤ 1000000000000000

def takeS (s : CurS) (n : Nat) : List UInt8 × CurS :=
  if s.err ≠ 0 then ([], s) else if s.l.length < s.p + n then ([], { s with err := 1 }) else ((s.l.drop s.p).take n, { s with p := s.p + n })

theorem Cur.fr {S : Nat → Prop} {w w' : World} {B : Nat} {s : CurS} (h : Cur w B s) (hf : Fr S w w') (h1 : ¬ S B) (h2 : ∀ A n c, Bl w B (curCells A n c s) → 0 < n → ∀ a, A = some a → ¬ S a.block) : Cur w' B s := by
  obtain ⟨A, n, c, hb, hby, hne, hr⟩ := h
  exact ⟨A, n, c, hb.fr hf h1, hf.rd hby (h2 A n c hb), hne, hr⟩
theorem Cur.below {w w' : World} {B : Nat} {s : CurS} (h : Cur w B s) (hb : Below w.heap.size w w') : Cur w' B s := by
  obtain ⟨A, n, c, h1, hby, hne, hr⟩ := h
  exact ⟨A, n, c, h1.below hb, Rd.below hby hb, hne, hr⟩

/-- the bytes of a part of a slice -/
theorem By.part {w : World} {A : Option Addr} {n : Nat} {l : List UInt8} (h : By w A n l) {p k : Nat} (hk : p + k ≤ n) (b o : Nat) (hA : 0 < k → A = some ⟨b, o, none⟩) : By w (some ⟨b, o + p, none⟩) k ((l.drop p).take k) := by
  have hl : l.length = n := by simpa using h.1
  refine ⟨by simp; omega, fun h0 => ⟨b, o + p, rfl, fun j u hu => ?_⟩⟩
  obtain ⟨b', o', e, hc⟩ := h.2 (by omega)
  have := hA h0
  rw [e] at this
  cases this
  have hj : j < k := by have := (List.getElem?_eq_some_iff.1 hu).1; simp at this; omega
  rw [List.getElem?_map, List.getElem?_take, if_pos hj, List.getElem?_drop] at hu
  rw [Nat.add_assoc]
  exact hc (p + j) u (by rw [List.getElem?_map]; exact hu)

def TakeR (B : Nat) (s : CurS) (k : Nat) (w : World) (r : Ending) (w' : World) : Prop :=
  ∃ A n c, r = .returned (.slice A n c) ∧ n = (takeS s k).1.length ∧ By w' A n (takeS s k).1 ∧ Cur w' B (takeS s k).2 ∧ Fr (· = B) w w'

set_option maxRecDepth 100000 in
theorem take_any (B : Nat) (s : CurS) (k : Nat) (w : World) (h : Cur w B s) (hk : k ≤ 1000000000000000) :
    Calls Try.prog 128 #[.pointer (some ⟨B, 0, none⟩), .int .i64 k] w (TakeR B s k w) := by
  obtain ⟨A, n, c, hb, hby, hne, hpn, hnc, hc⟩ := h
  have hl : s.l.length = n := by simpa using hby.1
  have c0 := hb.cell (i := 0) rfl
  have c1 := hb.cell (i := 1) rfl
  have c2 := hb.cell (i := 2) rfl
  have f0 := hb.frozen 0
  have f1 := hb.frozen 1
  have f2 := hb.frozen 2
  have HB := Lib.hid hb
  have HBY := Lib.hid hby
  have HL := Lib.hid hl
  have HNE := Lib.hid hne
  clear hb hby hl hne
  by_cases he : s.err = 0
  · rw [he] at c2
    by_cases hlt : n < s.p + k
    · have ht : takeS s k = ([], { s with err := 1 }) := by unfold takeS; rw [if_neg (by simpa using he), if_pos (by rw [HL.out]; exact hlt)]
      have HT := Lib.hid ht
      clear ht
      go_enter Try.func128, Try.ntmps128
      go_wp2
      go_quiet (fail)
      go_wp2
      go_ret
      refine ⟨none, 0, 0, by simp, by rw [HT.out]; rfl, by rw [HT.out]; exact ⟨rfl, fun h => absurd h (Nat.lt_irrefl _)⟩, ?_, (Fr.drewN (S := (· = B)) _).trans (Fr.setCell (S := (· = B)) (p := ⟨B, 2, none⟩) (.inl rfl) _)⟩
      rw [HT.out]
      refine ⟨A, n, c, ?_, By.setCell (Rd.below HBY.out (below_drewN (Below.refl _ _) _)) ((below_drewN (Below.refl _ _) _).cell (cell_lt c2) |>.trans c2) (fun x hx => by cases hx) _, HNE.out, hpn, hnc, hc⟩
      exact Bl.set (HB.out.below (below_drewN (Below.refl _ _) _)) 2 _
    · have ht : takeS s k = ((s.l.drop s.p).take k, { s with p := s.p + k }) := by unfold takeS; rw [if_neg (by simpa using he), if_neg (by rw [HL.out]; exact hlt)]
      have HT := Lib.hid ht
      clear ht
      have hlen : ((s.l.drop s.p).take k).length = k := by rw [List.length_take, List.length_drop, HL.out]; omega
      have HLEN := Lib.hid hlen
      clear hlen
      go_enter Try.func128, Try.ntmps128
      go_wp2
      go_quiet (fail)
      go_wp2
      go_quiet (fail)
      go_wp2
      all_goals go_ret
      · obtain rfl : c = s.p := by omega
        refine ⟨A, k, 0, by simp, by rw [HT.out]; exact HLEN.out.symm, ?_, ?_, (Fr.drewN (S := (· = B)) _).trans (Fr.setCell (S := (· = B)) (p := ⟨B, 1, none⟩) (.inl rfl) _)⟩
        · obtain rfl : k = 0 := by omega
          rw [HT.out]; exact ⟨by simp, fun h => absurd h (Nat.lt_irrefl _)⟩
        · rw [HT.out]
          refine ⟨A, n, s.p, ?_, By.setCell (Rd.below HBY.out (below_drewN (Below.refl _ _) _)) ((below_drewN (Below.refl _ _) _).cell (cell_lt c1) |>.trans c1) (fun x hx => by cases hx) _, HNE.out, by show s.p + k ≤ n; omega, by omega, by omega⟩
          exact Bl.set (HB.out.below (below_drewN (Below.refl _ _) _)) 1 _
      · have hby2 : By w (A.map (Addr.add · s.p)) k ((s.l.drop s.p).take k) := by
          by_cases hk0 : 0 < k
          · obtain ⟨b, o, hA, _⟩ := HBY.out.2 (by omega)
            subst hA
            have := HBY.out.part (p := s.p) (k := k) (by omega) b o (fun _ => rfl)
            simpa [Go.WideShapes.add_plain] using this
          · obtain rfl : k = 0 := by omega
            exact ⟨by simp, fun h => absurd h (Nat.lt_irrefl _)⟩
        refine ⟨A.map (Addr.add · s.p), k, c - s.p, by simp, by rw [HT.out]; exact HLEN.out.symm, ?_, ?_, (Fr.drewN (S := (· = B)) _).trans (Fr.setCell (S := (· = B)) (p := ⟨B, 1, none⟩) (.inl rfl) _)⟩
        · rw [HT.out]
          exact By.setCell (Rd.below hby2 (below_drewN (Below.refl _ _) _)) ((below_drewN (Below.refl _ _) _).cell (cell_lt c1) |>.trans c1) (fun x hx => by cases hx) _
        · rw [HT.out]
          refine ⟨A, n, c, ?_, By.setCell (Rd.below HBY.out (below_drewN (Below.refl _ _) _)) ((below_drewN (Below.refl _ _) _).cell (cell_lt c1) |>.trans c1) (fun x hx => by cases hx) _, HNE.out, by show s.p + k ≤ n; omega, by omega, by omega⟩
          exact Bl.set (HB.out.below (below_drewN (Below.refl _ _) _)) 1 _
  · have ht : takeS s k = ([], s) := by unfold takeS; rw [if_pos he]
    have HT := Lib.hid ht
    clear ht
    go_enter Try.func128, Try.ntmps128
    go_wp2
    go_ret
    exact ⟨none, 0, 0, by simp, by rw [HT.out]; rfl, by rw [HT.out]; exact ⟨rfl, fun h => absurd h (Nat.lt_irrefl _)⟩, by rw [HT.out]; exact ⟨A, n, c, HB.out, HBY.out, HNE.out, hpn, hnc, hc⟩, Fr.refl _ _⟩

def le : List UInt8 → Nat
  | [] => 0
  | b :: r => b.toNat + 256 * le r
def numS (s : CurS) (k : Nat) : Nat × CurS := (if (takeS s k).1.length = k then le (takeS s k).1 else 0, (takeS s k).2)

theorem known_any (k : Nat) (hk : k = 1 ∨ k = 2 ∨ k = 4 ∨ k = 8) (w : World) : Calls Try.prog 127 #[.int .i64 k] w fun r w' => r = .returned (.bool true) ∧ w = w' := by
  rcases hk with rfl | rfl | rfl | rfl
  all_goals go_enter Try.func127, Try.ntmps127
  all_goals go_wp2
  all_goals go_ret
  all_goals simp

def NumR (B : Nat) (s : CurS) (k : Nat) (w : World) (r : Ending) (w' : World) : Prop :=
  r = .returned (.int .u64 ((numS s k).1 : Int)) ∧ Cur w' B (numS s k).2 ∧ Fr (· = B) w w'


theorem wu {x : Int} (h0 : 0 ≤ x) (h1 : x < 18446744073709551616) : IntKind.u64.wrap x = x := by
  unfold IntKind.wrap; simp [IntKind.signed, IntKind.bits]; omega
theorem b_le (b : UInt8) : 0 ≤ (b.toNat : Int) ∧ (b.toNat : Int) ≤ 255 := by have := b.toNat_lt; omega
theorem or_56 (a : Int) (b : UInt8) (h0 : 0 ≤ a) (hmod : a % 18446744073709551616 = 0) (h1 : a < 18446744073709551616) : bits .or .u64 a (IntKind.u64.wrap (IntKind.u64.wrap (b.toNat : Int) * 72057594037927936)) = a + (b.toNat : Int) * 72057594037927936 := by
  obtain ⟨hb0, hb1⟩ := b_le b
  rw [wu hb0 (by omega), wu (by omega) (by omega)]
  exact bits_join .u64 64 (by decide) (fun n h0 h1 => wu h0 (by omega)) 64 a _ h0 (by omega) (by omega) (by omega) (by omega) (by omega)
theorem or_48 (a : Int) (b : UInt8) (h0 : 0 ≤ a) (hmod : a % 72057594037927936 = 0) (h1 : a < 18446744073709551616) : bits .or .u64 a (IntKind.u64.wrap (IntKind.u64.wrap (b.toNat : Int) * 281474976710656)) = a + (b.toNat : Int) * 281474976710656 := by
  obtain ⟨hb0, hb1⟩ := b_le b
  rw [wu hb0 (by omega), wu (by omega) (by omega)]
  exact bits_join .u64 64 (by decide) (fun n h0 h1 => wu h0 (by omega)) 56 a _ h0 (by omega) (by omega) (by omega) (by omega) (by omega)
theorem or_40 (a : Int) (b : UInt8) (h0 : 0 ≤ a) (hmod : a % 281474976710656 = 0) (h1 : a < 18446744073709551616) : bits .or .u64 a (IntKind.u64.wrap (IntKind.u64.wrap (b.toNat : Int) * 1099511627776)) = a + (b.toNat : Int) * 1099511627776 := by
  obtain ⟨hb0, hb1⟩ := b_le b
  rw [wu hb0 (by omega), wu (by omega) (by omega)]
  exact bits_join .u64 64 (by decide) (fun n h0 h1 => wu h0 (by omega)) 48 a _ h0 (by omega) (by omega) (by omega) (by omega) (by omega)
theorem or_32 (a : Int) (b : UInt8) (h0 : 0 ≤ a) (hmod : a % 1099511627776 = 0) (h1 : a < 18446744073709551616) : bits .or .u64 a (IntKind.u64.wrap (IntKind.u64.wrap (b.toNat : Int) * 4294967296)) = a + (b.toNat : Int) * 4294967296 := by
  obtain ⟨hb0, hb1⟩ := b_le b
  rw [wu hb0 (by omega), wu (by omega) (by omega)]
  exact bits_join .u64 64 (by decide) (fun n h0 h1 => wu h0 (by omega)) 40 a _ h0 (by omega) (by omega) (by omega) (by omega) (by omega)
theorem or_24 (a : Int) (b : UInt8) (h0 : 0 ≤ a) (hmod : a % 4294967296 = 0) (h1 : a < 18446744073709551616) : bits .or .u64 a (IntKind.u64.wrap (IntKind.u64.wrap (b.toNat : Int) * 16777216)) = a + (b.toNat : Int) * 16777216 := by
  obtain ⟨hb0, hb1⟩ := b_le b
  rw [wu hb0 (by omega), wu (by omega) (by omega)]
  exact bits_join .u64 64 (by decide) (fun n h0 h1 => wu h0 (by omega)) 32 a _ h0 (by omega) (by omega) (by omega) (by omega) (by omega)
theorem or_16 (a : Int) (b : UInt8) (h0 : 0 ≤ a) (hmod : a % 16777216 = 0) (h1 : a < 18446744073709551616) : bits .or .u64 a (IntKind.u64.wrap (IntKind.u64.wrap (b.toNat : Int) * 65536)) = a + (b.toNat : Int) * 65536 := by
  obtain ⟨hb0, hb1⟩ := b_le b
  rw [wu hb0 (by omega), wu (by omega) (by omega)]
  exact bits_join .u64 64 (by decide) (fun n h0 h1 => wu h0 (by omega)) 24 a _ h0 (by omega) (by omega) (by omega) (by omega) (by omega)
theorem or_8 (a : Int) (b : UInt8) (h0 : 0 ≤ a) (hmod : a % 65536 = 0) (h1 : a < 18446744073709551616) : bits .or .u64 a (IntKind.u64.wrap (IntKind.u64.wrap (b.toNat : Int) * 256)) = a + (b.toNat : Int) * 256 := by
  obtain ⟨hb0, hb1⟩ := b_le b
  rw [wu hb0 (by omega), wu (by omega) (by omega)]
  exact bits_join .u64 64 (by decide) (fun n h0 h1 => wu h0 (by omega)) 16 a _ h0 (by omega) (by omega) (by omega) (by omega) (by omega)
theorem or_0 (a : Int) (b : UInt8) (h0 : 0 ≤ a) (hmod : a % 256 = 0) (h1 : a < 18446744073709551616) : bits .or .u64 a (IntKind.u64.wrap (b.toNat : Int)) = a + (b.toNat : Int) := by
  obtain ⟨hb0, hb1⟩ := b_le b
  rw [wu hb0 (by omega)]
  exact bits_join .u64 64 (by decide) (fun n h0 h1 => wu h0 (by omega)) 8 a _ h0 (by omega) (by omega) (by omega) (by omega) (by omega)
theorem le8 (b0 b1 b2 b3 b4 b5 b6 b7 : UInt8) : bits .or .u64 (bits .or .u64 (bits .or .u64 (bits .or .u64 (bits .or .u64 (bits .or .u64 (bits .or .u64 (bits .or .u64 0 (IntKind.u64.wrap (IntKind.u64.wrap (b7.toNat : Int) * 72057594037927936))) (IntKind.u64.wrap (IntKind.u64.wrap (b6.toNat : Int) * 281474976710656))) (IntKind.u64.wrap (IntKind.u64.wrap (b5.toNat : Int) * 1099511627776))) (IntKind.u64.wrap (IntKind.u64.wrap (b4.toNat : Int) * 4294967296))) (IntKind.u64.wrap (IntKind.u64.wrap (b3.toNat : Int) * 16777216))) (IntKind.u64.wrap (IntKind.u64.wrap (b2.toNat : Int) * 65536))) (IntKind.u64.wrap (IntKind.u64.wrap (b1.toNat : Int) * 256))) (IntKind.u64.wrap (b0.toNat : Int)) = ((le [b0, b1, b2, b3, b4, b5, b6, b7] : Nat) : Int) := by
  obtain ⟨p0, q0⟩ := b_le b0
  obtain ⟨p1, q1⟩ := b_le b1
  obtain ⟨p2, q2⟩ := b_le b2
  obtain ⟨p3, q3⟩ := b_le b3
  obtain ⟨p4, q4⟩ := b_le b4
  obtain ⟨p5, q5⟩ := b_le b5
  obtain ⟨p6, q6⟩ := b_le b6
  obtain ⟨p7, q7⟩ := b_le b7
  rw [or_56 _ b7 (by omega) (by omega) (by omega), or_48 _ b6 (by omega) (by omega) (by omega), or_40 _ b5 (by omega) (by omega) (by omega), or_32 _ b4 (by omega) (by omega) (by omega), or_24 _ b3 (by omega) (by omega) (by omega), or_16 _ b2 (by omega) (by omega) (by omega), or_8 _ b1 (by omega) (by omega) (by omega), or_0 _ b0 (by omega) (by omega) (by omega)]
  simp only [le]
  omega
theorem le4 (b0 b1 b2 b3 : UInt8) : bits .or .u64 (bits .or .u64 (bits .or .u64 (bits .or .u64 0 (IntKind.u64.wrap (IntKind.u64.wrap (b3.toNat : Int) * 16777216))) (IntKind.u64.wrap (IntKind.u64.wrap (b2.toNat : Int) * 65536))) (IntKind.u64.wrap (IntKind.u64.wrap (b1.toNat : Int) * 256))) (IntKind.u64.wrap (b0.toNat : Int)) = ((le [b0, b1, b2, b3] : Nat) : Int) := by
  obtain ⟨p0, q0⟩ := b_le b0
  obtain ⟨p1, q1⟩ := b_le b1
  obtain ⟨p2, q2⟩ := b_le b2
  obtain ⟨p3, q3⟩ := b_le b3
  rw [or_24 _ b3 (by omega) (by omega) (by omega), or_16 _ b2 (by omega) (by omega) (by omega), or_8 _ b1 (by omega) (by omega) (by omega), or_0 _ b0 (by omega) (by omega) (by omega)]
  simp only [le]
  omega
theorem le2 (b0 b1 : UInt8) : bits .or .u64 (bits .or .u64 0 (IntKind.u64.wrap (IntKind.u64.wrap (b1.toNat : Int) * 256))) (IntKind.u64.wrap (b0.toNat : Int)) = ((le [b0, b1] : Nat) : Int) := by
  obtain ⟨p0, q0⟩ := b_le b0
  obtain ⟨p1, q1⟩ := b_le b1
  rw [or_8 _ b1 (by omega) (by omega) (by omega), or_0 _ b0 (by omega) (by omega) (by omega)]
  simp only [le]
  omega
theorem le1 (b0 : UInt8) : bits .or .u64 0 (IntKind.u64.wrap (b0.toNat : Int)) = ((le [b0] : Nat) : Int) := by
  obtain ⟨p0, q0⟩ := b_le b0
  rw [or_0 _ b0 (by omega) (by omega) (by omega)]
  simp only [le]
  omega
theorem len8 {l : List UInt8} (h : l.length = 8) : ∃ b0 b1 b2 b3 b4 b5 b6 b7, l = [b0, b1, b2, b3, b4, b5, b6, b7] := by
  match l, h with
  | [b0, b1, b2, b3, b4, b5, b6, b7], _ => exact ⟨b0, b1, b2, b3, b4, b5, b6, b7, rfl⟩
theorem cells8 {w : World} {A : Option Addr} {l : List UInt8} {b0 b1 b2 b3 b4 b5 b6 b7 : UInt8} (h : By w A 8 l) (hl : l = [b0, b1, b2, b3, b4, b5, b6, b7]) : ∃ b o, A = some ⟨b, o, none⟩ ∧ w.cell? ⟨b, o, none⟩ = some (.int .u8 b0.toNat) ∧ w.cell? ⟨b, o + 1, none⟩ = some (.int .u8 b1.toNat) ∧ w.cell? ⟨b, o + 2, none⟩ = some (.int .u8 b2.toNat) ∧ w.cell? ⟨b, o + 3, none⟩ = some (.int .u8 b3.toNat) ∧ w.cell? ⟨b, o + 4, none⟩ = some (.int .u8 b4.toNat) ∧ w.cell? ⟨b, o + 5, none⟩ = some (.int .u8 b5.toNat) ∧ w.cell? ⟨b, o + 6, none⟩ = some (.int .u8 b6.toNat) ∧ w.cell? ⟨b, o + 7, none⟩ = some (.int .u8 b7.toNat) := by
  subst hl
  obtain ⟨b, o, hA, hc⟩ := h.2 (by omega)
  exact ⟨b, o, hA, hc 0 _ rfl, hc 1 _ rfl, hc 2 _ rfl, hc 3 _ rfl, hc 4 _ rfl, hc 5 _ rfl, hc 6 _ rfl, hc 7 _ rfl⟩

theorem num8 (B : Nat) (s : CurS) (w : World) (h : Cur w B s) :
    Calls Try.prog 101 #[.pointer (some ⟨B, 0, none⟩), .int .i64 8] w (NumR B s 8 w) := by
  have hT : Calls Try.prog 128 #[.pointer (some ⟨B, 0, none⟩), .int .i64 8] w (TakeR B s 8 w) := take_any B s 8 w h (by omega)
  have hK : ∀ w, Calls Try.prog 127 #[.int .i64 8] w fun r w' => r = .returned (.bool true) ∧ w = w' := known_any 8 (by decide)
  have HK := Lib.hid hK
  have HT := Lib.hid hT
  have HH := Lib.hid h
  clear hT hK h
  by_cases hlen : (takeS s 8).1.length = 8
  · have hn : numS s 8 = (le (takeS s 8).1, (takeS s 8).2) := by unfold numS; rw [if_pos hlen]
    have HN := Lib.hid hn
    have HLEN := Lib.hid hlen
    clear hn hlen
    go_enter Try.func101, Try.ntmps101
    go_wp2_with (first
      | (go_at_call 127; (with_reducible refine (HK.out _).mono ?_); rintro r w1 ⟨rfl, rfl⟩)
      | (go_at_call 128; (with_reducible refine (HT.out).mono ?_); rintro r w1 ⟨A, n, c, rfl, hn, hby, hcur, hfr⟩; have HBY := Lib.hid hby; have HCUR := Lib.hid hcur; have HFR := Lib.hid hfr; obtain rfl : n = 8 := (by rw [hn, HLEN.out]); clear hn hby hcur hfr; obtain ⟨b0, b1, b2, b3, b4, b5, b6, b7, hl⟩ := len8 HLEN.out; obtain ⟨b, o, rfl, c0, c1, c2, c3, c4, c5, c6, c7⟩ := cells8 HBY.out hl; have HL := Lib.hid hl; clear hl))
    go_ret
    refine ⟨?_, by rw [HN.out]; exact HCUR.out, HFR.out⟩
    rw [HN.out, HL.out, ← le8]
    simp
  · have hl0 : (takeS s 8).1 = [] := by
      unfold takeS at hlen ⊢
      split
      · rfl
      · split
        · rfl
        · rename_i h1 h2
          rw [if_neg h1, if_neg h2] at hlen
          simp only [List.length_take, List.length_drop] at hlen
          omega
    have hn : numS s 8 = (0, (takeS s 8).2) := by unfold numS; rw [if_neg hlen]
    have HN := Lib.hid hn
    have HL := Lib.hid hl0
    clear hn hlen hl0
    go_enter Try.func101, Try.ntmps101
    go_wp2_with (first
      | (go_at_call 127; (with_reducible refine (HK.out _).mono ?_); rintro r w1 ⟨rfl, rfl⟩)
      | (go_at_call 128; (with_reducible refine (HT.out).mono ?_); rintro r w1 ⟨A, n, c, rfl, hn, hby, hcur, hfr⟩; have HBY := Lib.hid hby; have HCUR := Lib.hid hcur; have HFR := Lib.hid hfr; obtain rfl : n = 0 := (by rw [hn, HL.out]; rfl); clear hn hby hcur hfr))
    go_ret
    exact ⟨by rw [HN.out]; simp, by rw [HN.out]; exact HCUR.out, HFR.out⟩

theorem len4 {l : List UInt8} (h : l.length = 4) : ∃ b0 b1 b2 b3, l = [b0, b1, b2, b3] := by
  match l, h with
  | [b0, b1, b2, b3], _ => exact ⟨b0, b1, b2, b3, rfl⟩
theorem cells4 {w : World} {A : Option Addr} {l : List UInt8} {b0 b1 b2 b3 : UInt8} (h : By w A 4 l) (hl : l = [b0, b1, b2, b3]) : ∃ b o, A = some ⟨b, o, none⟩ ∧ w.cell? ⟨b, o, none⟩ = some (.int .u8 b0.toNat) ∧ w.cell? ⟨b, o + 1, none⟩ = some (.int .u8 b1.toNat) ∧ w.cell? ⟨b, o + 2, none⟩ = some (.int .u8 b2.toNat) ∧ w.cell? ⟨b, o + 3, none⟩ = some (.int .u8 b3.toNat) := by
  subst hl
  obtain ⟨b, o, hA, hc⟩ := h.2 (by omega)
  exact ⟨b, o, hA, hc 0 _ rfl, hc 1 _ rfl, hc 2 _ rfl, hc 3 _ rfl⟩

theorem num4 (B : Nat) (s : CurS) (w : World) (h : Cur w B s) :
    Calls Try.prog 101 #[.pointer (some ⟨B, 0, none⟩), .int .i64 4] w (NumR B s 4 w) := by
  have hT : Calls Try.prog 128 #[.pointer (some ⟨B, 0, none⟩), .int .i64 4] w (TakeR B s 4 w) := take_any B s 4 w h (by omega)
  have hK : ∀ w, Calls Try.prog 127 #[.int .i64 4] w fun r w' => r = .returned (.bool true) ∧ w = w' := known_any 4 (by decide)
  have HK := Lib.hid hK
  have HT := Lib.hid hT
  have HH := Lib.hid h
  clear hT hK h
  by_cases hlen : (takeS s 4).1.length = 4
  · have hn : numS s 4 = (le (takeS s 4).1, (takeS s 4).2) := by unfold numS; rw [if_pos hlen]
    have HN := Lib.hid hn
    have HLEN := Lib.hid hlen
    clear hn hlen
    go_enter Try.func101, Try.ntmps101
    go_wp2_with (first
      | (go_at_call 127; (with_reducible refine (HK.out _).mono ?_); rintro r w1 ⟨rfl, rfl⟩)
      | (go_at_call 128; (with_reducible refine (HT.out).mono ?_); rintro r w1 ⟨A, n, c, rfl, hn, hby, hcur, hfr⟩; have HBY := Lib.hid hby; have HCUR := Lib.hid hcur; have HFR := Lib.hid hfr; obtain rfl : n = 4 := (by rw [hn, HLEN.out]); clear hn hby hcur hfr; obtain ⟨b0, b1, b2, b3, hl⟩ := len4 HLEN.out; obtain ⟨b, o, rfl, c0, c1, c2, c3⟩ := cells4 HBY.out hl; have HL := Lib.hid hl; clear hl))
    go_ret
    refine ⟨?_, by rw [HN.out]; exact HCUR.out, HFR.out⟩
    rw [HN.out, HL.out, ← le4]
    simp
  · have hl0 : (takeS s 4).1 = [] := by
      unfold takeS at hlen ⊢
      split
      · rfl
      · split
        · rfl
        · rename_i h1 h2
          rw [if_neg h1, if_neg h2] at hlen
          simp only [List.length_take, List.length_drop] at hlen
          omega
    have hn : numS s 4 = (0, (takeS s 4).2) := by unfold numS; rw [if_neg hlen]
    have HN := Lib.hid hn
    have HL := Lib.hid hl0
    clear hn hlen hl0
    go_enter Try.func101, Try.ntmps101
    go_wp2_with (first
      | (go_at_call 127; (with_reducible refine (HK.out _).mono ?_); rintro r w1 ⟨rfl, rfl⟩)
      | (go_at_call 128; (with_reducible refine (HT.out).mono ?_); rintro r w1 ⟨A, n, c, rfl, hn, hby, hcur, hfr⟩; have HBY := Lib.hid hby; have HCUR := Lib.hid hcur; have HFR := Lib.hid hfr; obtain rfl : n = 0 := (by rw [hn, HL.out]; rfl); clear hn hby hcur hfr))
    go_ret
    exact ⟨by rw [HN.out]; simp, by rw [HN.out]; exact HCUR.out, HFR.out⟩

theorem len2 {l : List UInt8} (h : l.length = 2) : ∃ b0 b1, l = [b0, b1] := by
  match l, h with
  | [b0, b1], _ => exact ⟨b0, b1, rfl⟩
theorem cells2 {w : World} {A : Option Addr} {l : List UInt8} {b0 b1 : UInt8} (h : By w A 2 l) (hl : l = [b0, b1]) : ∃ b o, A = some ⟨b, o, none⟩ ∧ w.cell? ⟨b, o, none⟩ = some (.int .u8 b0.toNat) ∧ w.cell? ⟨b, o + 1, none⟩ = some (.int .u8 b1.toNat) := by
  subst hl
  obtain ⟨b, o, hA, hc⟩ := h.2 (by omega)
  exact ⟨b, o, hA, hc 0 _ rfl, hc 1 _ rfl⟩

theorem num2 (B : Nat) (s : CurS) (w : World) (h : Cur w B s) :
    Calls Try.prog 101 #[.pointer (some ⟨B, 0, none⟩), .int .i64 2] w (NumR B s 2 w) := by
  have hT : Calls Try.prog 128 #[.pointer (some ⟨B, 0, none⟩), .int .i64 2] w (TakeR B s 2 w) := take_any B s 2 w h (by omega)
  have hK : ∀ w, Calls Try.prog 127 #[.int .i64 2] w fun r w' => r = .returned (.bool true) ∧ w = w' := known_any 2 (by decide)
  have HK := Lib.hid hK
  have HT := Lib.hid hT
  have HH := Lib.hid h
  clear hT hK h
  by_cases hlen : (takeS s 2).1.length = 2
  · have hn : numS s 2 = (le (takeS s 2).1, (takeS s 2).2) := by unfold numS; rw [if_pos hlen]
    have HN := Lib.hid hn
    have HLEN := Lib.hid hlen
    clear hn hlen
    go_enter Try.func101, Try.ntmps101
    go_wp2_with (first
      | (go_at_call 127; (with_reducible refine (HK.out _).mono ?_); rintro r w1 ⟨rfl, rfl⟩)
      | (go_at_call 128; (with_reducible refine (HT.out).mono ?_); rintro r w1 ⟨A, n, c, rfl, hn, hby, hcur, hfr⟩; have HBY := Lib.hid hby; have HCUR := Lib.hid hcur; have HFR := Lib.hid hfr; obtain rfl : n = 2 := (by rw [hn, HLEN.out]); clear hn hby hcur hfr; obtain ⟨b0, b1, hl⟩ := len2 HLEN.out; obtain ⟨b, o, rfl, c0, c1⟩ := cells2 HBY.out hl; have HL := Lib.hid hl; clear hl))
    go_ret
    refine ⟨?_, by rw [HN.out]; exact HCUR.out, HFR.out⟩
    rw [HN.out, HL.out, ← le2]
    simp
  · have hl0 : (takeS s 2).1 = [] := by
      unfold takeS at hlen ⊢
      split
      · rfl
      · split
        · rfl
        · rename_i h1 h2
          rw [if_neg h1, if_neg h2] at hlen
          simp only [List.length_take, List.length_drop] at hlen
          omega
    have hn : numS s 2 = (0, (takeS s 2).2) := by unfold numS; rw [if_neg hlen]
    have HN := Lib.hid hn
    have HL := Lib.hid hl0
    clear hn hlen hl0
    go_enter Try.func101, Try.ntmps101
    go_wp2_with (first
      | (go_at_call 127; (with_reducible refine (HK.out _).mono ?_); rintro r w1 ⟨rfl, rfl⟩)
      | (go_at_call 128; (with_reducible refine (HT.out).mono ?_); rintro r w1 ⟨A, n, c, rfl, hn, hby, hcur, hfr⟩; have HBY := Lib.hid hby; have HCUR := Lib.hid hcur; have HFR := Lib.hid hfr; obtain rfl : n = 0 := (by rw [hn, HL.out]; rfl); clear hn hby hcur hfr))
    go_ret
    exact ⟨by rw [HN.out]; simp, by rw [HN.out]; exact HCUR.out, HFR.out⟩

theorem len1 {l : List UInt8} (h : l.length = 1) : ∃ b0, l = [b0] := by
  match l, h with
  | [b0], _ => exact ⟨b0, rfl⟩
theorem cells1 {w : World} {A : Option Addr} {l : List UInt8} {b0 : UInt8} (h : By w A 1 l) (hl : l = [b0]) : ∃ b o, A = some ⟨b, o, none⟩ ∧ w.cell? ⟨b, o, none⟩ = some (.int .u8 b0.toNat) := by
  subst hl
  obtain ⟨b, o, hA, hc⟩ := h.2 (by omega)
  exact ⟨b, o, hA, hc 0 _ rfl⟩

theorem num1 (B : Nat) (s : CurS) (w : World) (h : Cur w B s) :
    Calls Try.prog 101 #[.pointer (some ⟨B, 0, none⟩), .int .i64 1] w (NumR B s 1 w) := by
  have hT : Calls Try.prog 128 #[.pointer (some ⟨B, 0, none⟩), .int .i64 1] w (TakeR B s 1 w) := take_any B s 1 w h (by omega)
  have hK : ∀ w, Calls Try.prog 127 #[.int .i64 1] w fun r w' => r = .returned (.bool true) ∧ w = w' := known_any 1 (by decide)
  have HK := Lib.hid hK
  have HT := Lib.hid hT
  have HH := Lib.hid h
  clear hT hK h
  by_cases hlen : (takeS s 1).1.length = 1
  · have hn : numS s 1 = (le (takeS s 1).1, (takeS s 1).2) := by unfold numS; rw [if_pos hlen]
    have HN := Lib.hid hn
    have HLEN := Lib.hid hlen
    clear hn hlen
    go_enter Try.func101, Try.ntmps101
    go_wp2_with (first
      | (go_at_call 127; (with_reducible refine (HK.out _).mono ?_); rintro r w1 ⟨rfl, rfl⟩)
      | (go_at_call 128; (with_reducible refine (HT.out).mono ?_); rintro r w1 ⟨A, n, c, rfl, hn, hby, hcur, hfr⟩; have HBY := Lib.hid hby; have HCUR := Lib.hid hcur; have HFR := Lib.hid hfr; obtain rfl : n = 1 := (by rw [hn, HLEN.out]); clear hn hby hcur hfr; obtain ⟨b0, hl⟩ := len1 HLEN.out; obtain ⟨b, o, rfl, c0⟩ := cells1 HBY.out hl; have HL := Lib.hid hl; clear hl))
    go_ret
    refine ⟨?_, by rw [HN.out]; exact HCUR.out, HFR.out⟩
    rw [HN.out, HL.out, ← le1]
    simp
  · have hl0 : (takeS s 1).1 = [] := by
      unfold takeS at hlen ⊢
      split
      · rfl
      · split
        · rfl
        · rename_i h1 h2
          rw [if_neg h1, if_neg h2] at hlen
          simp only [List.length_take, List.length_drop] at hlen
          omega
    have hn : numS s 1 = (0, (takeS s 1).2) := by unfold numS; rw [if_neg hlen]
    have HN := Lib.hid hn
    have HL := Lib.hid hl0
    clear hn hlen hl0
    go_enter Try.func101, Try.ntmps101
    go_wp2_with (first
      | (go_at_call 127; (with_reducible refine (HK.out _).mono ?_); rintro r w1 ⟨rfl, rfl⟩)
      | (go_at_call 128; (with_reducible refine (HT.out).mono ?_); rintro r w1 ⟨A, n, c, rfl, hn, hby, hcur, hfr⟩; have HBY := Lib.hid hby; have HCUR := Lib.hid hcur; have HFR := Lib.hid hfr; obtain rfl : n = 0 := (by rw [hn, HL.out]; rfl); clear hn hby hcur hfr))
    go_ret
    exact ⟨by rw [HN.out]; simp, by rw [HN.out]; exact HCUR.out, HFR.out⟩


end Go.Proofs.Ytblpnohfileibaa

/- The laws of append and make at the element types of this program; no law of the program is proved here. -/
namespace Go.Proofs.Ytblpnohfileibaa
open Go.RowKit

theorem info_u8 : (Try.prog.info? 5).map (fun i => (i.zero, i.size, i.bytes)) = some (some (.int .u8 0), 1, 1) := by kernel_rfl

/-- append onto an owned []byte -/
theorem app_u8 {ops : Array Oper} {rest : List Oper} {o : Oper} {a : Act} {Q : Exit → Act → World → Prop} (w : World) (hgd : o.guard = none) (s x : Operand)
    (ho : o.op = .call { callee := .builtin .append, args := #[s, x], argTypes := #[32, 32] })
    (base : Nat) (v : Value) (n : Nat) (xs : List Value) (hs : a.eval s = v) (hown : w.ownsRow base 5 1 v n xs)
    (A : Option Addr) (m c : Nat) (news : List Value) (hx : a.eval x = .slice A m c) (hr : Rd w 1 A m news) (h1 : ∀ u ∈ news, u.oneCell' = true)
    (hnm : n + m ≤ 1000000000000) (hbase : base ≤ w.heap.size)
    (h : ∀ A' c' w', w'.ownsRow base 5 1 (.slice A' (n + m) c') (n + m) (xs ++ news) → w.grownBy w' v.ownBlock → ((Value.slice A' (n + m) c').ownBlock = v.ownBlock ∨ (Value.slice A' (n + m) c').ownBlock = some w.heap.size) →
      wpList Try.prog ops Q rest (a.put o.dst (.slice A' (n + m) c')) w') : wpList Try.prog ops Q (o :: rest) a w := by
  obtain ⟨i0, hi, hz0, hz1, hz2⟩ := info_parts info_u8
  exact wpList_append_rd w hgd s x 32 ho base 5 i0 (.int .u8 0) 1 1 Try.underlying32 hi hz0 hz1 hz2 rfl (by decide) v n xs hs hown A m c news hx hr h1 (by unfold maxLen; omega) (by omega) hbase h

/-- make([]byte, 0, n) -/
theorem mk_u8 {ops : Array Oper} {rest : List Oper} {o : Oper} {a : Act} {Q : Exit → Act → World → Prop} (w : World) (hg : o.guard = none) (l c : Operand) (hop : o.op = Op.makeSlice 32 l c)
    (base : Nat) (kl kc : IntKind) (C : Int) (n : Nat) (hl : a.eval l = .int kl 0) (hc : a.eval c = .int kc C) (hC : C = (n : Int)) (b2 : n ≤ 1000000000000) (b4 : base ≤ w.heap.size)
    (hK : ∀ w', w'.ownsRow base 5 1 (.slice (some ⟨w.heap.size, 0, none⟩) 0 n) 0 [] → w.grownBy w' none → wpList Try.prog ops Q rest (a.put o.dst (.slice (some ⟨w.heap.size, 0, none⟩) 0 n)) w') :
    wpList Try.prog ops Q (o :: rest) a w := by
  obtain ⟨i0, hi, hz0, hz1, hz2⟩ := info_parts info_u8
  exact wpList_make_own w hg l c 32 hop base 5 i0 (.int .u8 0) 1 Try.underlying32 hi hz0 hz1 kl kc C n hl hc hC (by rw [hz2]; omega) (by unfold maxLen; omega) b4 hK

/-- make([]byte, n) -/
theorem mkf_u8 {ops : Array Oper} {rest : List Oper} {o : Oper} {a : Act} {Q : Exit → Act → World → Prop} (w : World) (hg : o.guard = none) (l c : Operand) (hop : o.op = Op.makeSlice 32 l c)
    (base : Nat) (kl kc : IntKind) (L C : Int) (n : Nat) (hl : a.eval l = .int kl L) (hc : a.eval c = .int kc C) (hL : L = (n : Int)) (hC : C = (n : Int)) (b2 : n ≤ 1000000000000) (b4 : base ≤ w.heap.size)
    (hK : ∀ w', w'.ownsRow base 5 1 (.slice (some ⟨w.heap.size, 0, none⟩) n n) n (List.replicate n (.int .u8 0)) → w.grownBy w' none → wpList Try.prog ops Q rest (a.put o.dst (.slice (some ⟨w.heap.size, 0, none⟩) n n)) w') :
    wpList Try.prog ops Q (o :: rest) a w := by
  obtain ⟨i0, hi, hz0, hz1, hz2⟩ := info_parts info_u8
  refine wpList_make_full w hg l c 32 hop base 5 i0 (.int .u8 0) 1 Try.underlying32 hi hz0 hz1 kl kc L C n hl hc hL hC (by rw [hz2]; omega) (by unfold maxLen; omega) b4 fun w' h1 h2 => hK w' ?_ h2
  have : (madeCells (Value.int .u8 0).cells (n * 1)).toList = List.replicate n (.int .u8 0) := by
    rw [Nat.mul_one]; exact toList_madeCells_one _ _
  rw [this] at h1
  exact h1

/-- string(b) -/
theorem cv_b2s {w : World} {A : Option Addr} {n : Nat} {l : List UInt8} (h : By w A n l) (c : Nat) : (convert 32 9 (.slice A n c)).run Try.prog w = .ok (.string ⟨l.toArray⟩) w := by
  rw [run_convert_bytes_string w _ _ _ _ _ _ Try.underlying32 Try.underlying5 Try.underlying9, run_b2s h]
end Go.Proofs.Ytblpnohfileibaa

/- The law of append at bytes: it lies in Types. -/
namespace Go.Proofs.Ytblpnohfileibaa
end Go.Proofs.Ytblpnohfileibaa

/- The cursor of the package octet, made; its errors, its texts. -/
namespace Go.Proofs.Ytblpnohfileibaa
open Go.RowKit

/-- a cursor of its own, made behind w -/
def NewR (l : List UInt8) (w : World) (r : Ending) (w' : World) : Prop :=
  ∃ B, r = .returned (.pointer (some ⟨B, 0, none⟩)) ∧ w.heap.size ≤ B ∧ Cur w' B ⟨l, 0, 0⟩ ∧ Below w.heap.size w w'

theorem zero_cur (w : World) : (zeroValue 173).run Try.prog w = .ok (.agg #[.slice none 0 0, .int .i64 0, .int .i64 0]) w := by kernel_rfl

set_option maxRecDepth 100000 in
theorem NewCursor_any (A : Option Addr) (n c : Nat) (l : List UInt8) (w : World) (h : By w A n l) (hn : n ≤ 100000000000) :
    Calls Try.prog 100 #[.slice A n c] w (NewR l w) := by
  have HH := Lib.hid h
  clear h
  have hz := zero_cur
  go_enter Try.func100, Try.ntmps100
  go_wp2_with (at_builtin; refine app_u8 _ rfl _ _ rfl w.heap.size _ 0 [] rfl (World.ownsRow_nil _ _ _ _) A n c (l.map bv) rfl HH.out (bv_oneCell _) (by omega) (Nat.le_refl _) ?_; intro A1 c1 w1 hown hgrow hblk)
  go_ret
  have hown' := hown
  simp only [List.nil_append, Nat.zero_add] at hown'
  refine ⟨w1.heap.size, by simp, hgrow.size, ?_, ?_⟩
  · refine ⟨A1, n, c1, ?_, (own_rd hown').below ((Below.refl _ _).alloc (Nat.le_refl _) _), ?_, Nat.zero_le _, ?_, ?_⟩
    · have := Bl.newL w1 (curCells A1 n c1 ⟨l, 0, 0⟩) 173
      simpa [curCells] using this
    · intro hn a ha
      have hb : (Value.slice A1 n c1).ownBlock = some a.block := by
        obtain ⟨g, cap, hv, _⟩ := hown'.form hn
        injection hv with h1 _ _
        rw [h1] at ha
        cases ha
        rw [h1]
        rfl
      exact (hown'.lt a.block hb).2
    · obtain ⟨A', c', hv, h1, _⟩ := own_slice hown'
      injection hv with _ _ h3
      omega
    · omega
  · exact ((Below.refl _ _).grown hgrow (Nat.le_refl _) (fun g hg => by cases hg)).alloc hgrow.size _
set_option maxRecDepth 100000 in
theorem Err_any (B : Nat) (s : CurS) (w : World) (h : Cur w B s) :
    Calls Try.prog 102 #[.pointer (some ⟨B, 0, none⟩)] w fun r w' => r = .returned (.int .i64 s.err) ∧ w = w' := by
  obtain ⟨A, n, c, hb, hby, hne, hpn, hnc, hc⟩ := h
  have c2 := hb.cell (i := 2) rfl
  clear hb hby hne
  go_enter Try.func102, Try.ntmps102
  go_wp2
  go_ret
  exact ⟨by simp, rfl⟩

set_option maxRecDepth 100000 in
theorem Left_any (B : Nat) (s : CurS) (w : World) (h : Cur w B s) :
    Calls Try.prog 130 #[.pointer (some ⟨B, 0, none⟩)] w fun r w' => r = .returned (.int .i64 ((s.l.length - s.p : Nat) : Int)) ∧ Below w.heap.size w w' := by
  obtain ⟨A, n, c, hb, hby, hne, hpn, hnc, hc⟩ := h
  have c0 := hb.cell (i := 0) rfl
  have c1 := hb.cell (i := 1) rfl
  have hl : s.l.length = n := by simpa using hby.1
  have HL := Lib.hid hl
  clear hb hby hne hl
  go_enter Try.func130, Try.ntmps130
  go_wp2
  go_quiet (fail)
  go_wp2
  go_ret
  refine ⟨?_, below_drewN (Below.refl _ _) _⟩
  rw [HL.out]
  simp
  omega

/-- what Done answers -/
def doneS (s : CurS) : Int := if s.err ≠ 0 then s.err else if s.p < s.l.length then 2 else 0
set_option maxRecDepth 100000 in
theorem Done_any (B : Nat) (s : CurS) (w : World) (h : Cur w B s) :
    Calls Try.prog 107 #[.pointer (some ⟨B, 0, none⟩)] w fun r w' => r = .returned (.int .i64 (doneS s)) ∧ Below w.heap.size w w' := by
  have h1 := Err_any B s w h
  have h2 := Left_any B s w h
  have H1 := Lib.hid h1
  have H2 := Lib.hid h2
  have H := Lib.hid h
  clear h h1 h2
  by_cases he : s.err = 0
  · rw [he] at H1
    by_cases hp : s.p < s.l.length
    · have hd : doneS s = 2 := by unfold doneS; rw [if_neg (by simpa using he), if_pos hp]
      rw [hd]
      clear hd
      go_enter Try.func107, Try.ntmps107
      go_wp2_with (first
        | (go_at_call 102; (with_reducible refine H1.out.mono ?_); rintro r w1 ⟨rfl, rfl⟩)
        | (go_at_call 130; (with_reducible refine H2.out.mono ?_); rintro r w1 ⟨rfl, hb⟩))
      go_ret
      exact ⟨by simp, hb⟩
    · have hd : doneS s = 0 := by unfold doneS; rw [if_neg (by simpa using he), if_neg hp]
      rw [hd]
      clear hd
      go_enter Try.func107, Try.ntmps107
      go_wp2_with (first
        | (go_at_call 102; (with_reducible refine H1.out.mono ?_); rintro r w1 ⟨rfl, rfl⟩)
        | (go_at_call 130; (with_reducible refine H2.out.mono ?_); rintro r w1 ⟨rfl, hb⟩))
      go_ret
      exact ⟨by simp, hb⟩
  · have hd : doneS s = s.err := by unfold doneS; rw [if_pos he]
    rw [hd]
    clear hd
    go_enter Try.func107, Try.ntmps107
    go_wp2_with (go_at_call 102; (with_reducible refine H1.out.mono ?_); rintro r w1 ⟨rfl, rfl⟩)
    go_ret
    exact ⟨by simp, bel_rfl⟩
end Go.Proofs.Ytblpnohfileibaa

/- The cursor of the package octet: texts. -/
namespace Go.Proofs.Ytblpnohfileibaa
open Go.RowKit

/-- what Text(1, most) answers -/
def textS (s : CurS) (most : Nat) : List UInt8 × CurS :=
  if (numS s 1).2.err ≠ 0 then ([], (numS s 1).2) else if most < (numS s 1).1 then ([], { (numS s 1).2 with err := 2 }) else takeS (numS s 1).2 (numS s 1).1

def TextR (B : Nat) (s : CurS) (most : Nat) (w : World) (r : Ending) (w' : World) : Prop :=
  r = .returned (.string ⟨(textS s most).1.toArray⟩) ∧ Cur w' B (textS s most).2 ∧ Fr (· = B) w w'

theorem Cur.setErr {w : World} {B : Nat} {s : CurS} (h : Cur w B s) (e : Int) : Cur (w.setCell ⟨B, 2, none⟩ (.int .i64 e)) B { s with err := e } := by
  obtain ⟨A, n, c, hb, hby, hne, hr⟩ := h
  exact ⟨A, n, c, Bl.set hb 2 _, By.setCell hby (hb.cell (i := 2) rfl) (fun x hx => by cases hx) _, hne, hr⟩

theorem num1_lt (s : CurS) : (numS s 1).1 < 256 := by
  unfold numS
  split
  · rename_i h
    match hl : (takeS s 1).1, h with
    | [b], _ => simp only [le]; have := b.toNat_lt; omega
  · omega

set_option maxRecDepth 100000 in
theorem Text_any (B : Nat) (s : CurS) (most : Nat) (w : World) (h : Cur w B s) (hm : most ≤ 1000) :
    Calls Try.prog 104 #[.pointer (some ⟨B, 0, none⟩), .int .i64 1, .int .i64 most] w (TextR B s most w) := by
  have hN := num1 B s w h
  have HN := Lib.hid hN
  clear hN h
  have hlt := num1_lt s
  by_cases he : (numS s 1).2.err = 0
  · by_cases hmn : most < (numS s 1).1
    · have ht : textS s most = ([], { (numS s 1).2 with err := 2 }) := by unfold textS; rw [if_neg (by simpa using he), if_pos hmn]
      have HT := Lib.hid ht
      clear ht
      go_enter Try.func104, Try.ntmps104
      go_wp2_with (first
        | (go_at_call 101; (with_reducible refine HN.out.mono ?_); rintro r w1 ⟨rfl, hcur, hfr⟩; have HCUR := Lib.hid hcur; obtain ⟨A, n, c, hb, hby, hne, hrest⟩ := hcur; have c2 := hb.cell (i := 2) rfl; have f2 := hb.frozen 2; rw [he] at c2; clear hb hby hne hrest))
      go_ret
      refine ⟨by rw [HT.out]; simp, ?_, hfr.trans (Fr.setCell (S := (· = B)) (p := ⟨B, 2, none⟩) (.inl rfl) _)⟩
      rw [HT.out]
      exact HCUR.out.setErr 2
    · have ht : textS s most = takeS (numS s 1).2 (numS s 1).1 := by unfold textS; rw [if_neg (by simpa using he), if_neg hmn]
      have HT := Lib.hid ht
      clear ht
      go_enter Try.func104, Try.ntmps104
      go_wp2_with (first
        | (go_at_call 101; (with_reducible refine HN.out.mono ?_); rintro r w1 ⟨rfl, hcur, hfr⟩; have HCUR := Lib.hid hcur; obtain ⟨A, n, c, hb, hby, hne, hrest⟩ := hcur; have c2 := hb.cell (i := 2) rfl; have f2 := hb.frozen 2; rw [he] at c2; clear hb hby hne hrest)
        | (go_at_call 128; (with_reducible refine (take_any B _ _ _ HCUR.out (by omega)).mono ?_); rintro r w2 ⟨A2, n2, k2, rfl, hn2, hby2, hcur2, hfr2⟩; have hcv := cv_b2s hby2 k2; have HH2 := Lib.hid (And.intro hcur2 hfr2); clear hby2 hn2 hcur2 hfr2))
      go_ret
      exact ⟨by rw [HT.out]; simp, by rw [HT.out]; exact HH2.out.1, hfr.trans HH2.out.2⟩
  · have ht : textS s most = ([], (numS s 1).2) := by unfold textS; rw [if_pos he]
    have HT := Lib.hid ht
    clear ht
    go_enter Try.func104, Try.ntmps104
    go_wp2_with (first
      | (go_at_call 101; (with_reducible refine HN.out.mono ?_); rintro r w1 ⟨rfl, hcur, hfr⟩; have HCUR := Lib.hid hcur; obtain ⟨A, n, c, hb, hby, hne, hrest⟩ := hcur; have c2 := hb.cell (i := 2) rfl; have f2 := hb.frozen 2; clear hb hby hne hrest))
    go_ret
    exact ⟨by rw [HT.out]; simp, by rw [HT.out]; exact HCUR.out, hfr⟩
end Go.Proofs.Ytblpnohfileibaa

/- Floating numbers of 64 bits by their bits: how they stand to nought and to the greatest. -/
namespace Go.Proofs.Ytblpnohfileibaa
open Ieee

def rungF (b : Nat) : Nat := b % 9223372036854775808
def negF (b : Nat) : Bool := decide (9223372036854775808 ≤ b)
/-- the rung of the infinite -/
abbrev infF : Nat := 9218868437227405312

theorem sw : double.signWeight = 9223372036854775808 := by decide
theorem bn : double.binade = 4503599627370496 := by decide
theorem ir : double.infRung = 9218868437227405312 := by decide
theorem lp : double.leastPlace = -1074 := by decide

theorem read_eq (b : Nat) (hb : b < 18446744073709551616) : double.read b =
    if rungF b < 4503599627370496 then .number (negF b) (rungF b) (-1074)
    else if rungF b < infF then .number (negF b) (4503599627370496 + rungF b % 4503599627370496) (-1074 + (rungF b / 4503599627370496 - 1 : Nat))
    else if rungF b = infF then .infinity (negF b) else .nan (negF b) (rungF b - infF) := by
  have hn : (b / 9223372036854775808 % 2 == 1) = negF b := by
    unfold negF
    rw [Bool.eq_iff_iff]
    simp
    omega
  unfold Format.read
  simp only [sw, bn, ir, lp, hn]
  rfl

theorem ord_self (b : Nat) (hb : b < 18446744073709551616) : (double.order b b == some .eq) = decide (rungF b ≤ infF) := by
  unfold Format.order
  rw [read_eq b hb]
  by_cases h1 : rungF b < 4503599627370496
  · rw [if_pos h1]
    simp [Datum.order]
    unfold infF; omega
  · rw [if_neg h1]
    by_cases h2 : rungF b < infF
    · rw [if_pos h2]
      simp [Datum.order]
      omega
    · rw [if_neg h2]
      by_cases h3 : rungF b = infF
      · rw [if_pos h3]
        simp [Datum.order, h3]
      · rw [if_neg h3]
        simp [Datum.order]
        omega

theorem read_zero : double.read 0 = .number false 0 (-1074) := by decide
theorem signed_pos (m up : Nat) (s : Bool) (h : 0 < m) : compare (signed s m up) 0 = if s then .lt else .gt := by
  have hm : 0 < m <<< up := by rw [Nat.shiftLeft_eq]; exact Nat.mul_pos h (Nat.two_pow_pos _)
  cases s with
  | true =>
    simp only [signed, if_true]
    rw [Int.compare_eq_lt]
    omega
  | false =>
    simp only [signed, Bool.false_eq_true, if_false]
    rw [Int.compare_eq_gt]
    omega
theorem ord_zero (b : Nat) (hb : b < 18446744073709551616) : double.order b 0 = if infF < rungF b then none else if rungF b = 0 then some .eq else some (if negF b then .lt else .gt) := by
  unfold Format.order
  rw [read_eq b hb, read_zero]
  by_cases h1 : rungF b < 4503599627370496
  · rw [if_pos h1, if_neg (by unfold infF; omega)]
    simp only [Datum.order]
    by_cases h0 : rungF b = 0
    · rw [h0]; simp [signed]
    · rw [if_neg h0]
      have : signed false 0 (((-1074 : Int) - min (-1074) (-1074)).toNat) = 0 := by decide
      rw [this, signed_pos _ _ _ (by omega)]
  · rw [if_neg h1]
    by_cases h2 : rungF b < infF
    · rw [if_pos h2, if_neg (by omega), if_neg (by omega)]
      simp only [Datum.order]
      have : ∀ k : Nat, signed false 0 k = 0 := by intro k; simp [signed]
      rw [this, signed_pos _ _ _ (by omega)]
    · rw [if_neg h2]
      by_cases h3 : rungF b = infF
      · rw [if_pos h3, if_neg (by omega), if_neg (by unfold infF at h3; omega)]
        simp [Datum.order]
      · rw [if_neg h3, if_pos (by omega)]
        simp [Datum.order]

theorem read_max : double.read 9218868437227405311 = .number false 9007199254740991 971 := by decide
theorem signed_le {m u k v : Nat} {s : Bool} (h : m <<< u ≤ k <<< v) : ¬ signed false k v < signed s m u := by
  cases s with
  | true =>
    simp only [signed, if_true, Bool.false_eq_true, if_false]
    generalize m <<< u = x at *
    generalize k <<< v = y at *
    omega
  | false =>
    simp only [signed, Bool.false_eq_true, if_false]
    generalize m <<< u = x at *
    generalize k <<< v = y at *
    omega
theorem ord_max (b : Nat) (hb : b < 18446744073709551616) : (double.order b 9218868437227405311 == some .gt) = decide (rungF b = infF ∧ negF b = false) := by
  have hle : ∀ {s : Bool} {m u k v : Nat}, m <<< u ≤ k <<< v → (some (compare (signed s m u) (signed false k v)) == some Ordering.gt) = false := by
    intro s m u k v h
    rw [beq_eq_false_iff_ne]
    intro e
    exact signed_le (s := s) h (Int.compare_eq_gt.1 (Option.some.inj e))
  have hno : ¬ rungF b = infF → decide (rungF b = infF ∧ negF b = false) = false := fun h => decide_eq_false fun h' => h h'.1
  unfold Format.order
  rw [read_eq b hb, read_max]
  by_cases h1 : rungF b < 4503599627370496
  · rw [if_pos h1, hno (by unfold infF; omega)]
    simp only [Datum.order]
    refine hle ?_
    have e : (971 - min (-1074 : Int) 971).toNat = 2045 := by decide
    rw [e, Nat.shiftLeft_eq, Nat.shiftLeft_eq]
    have e2 : (-1074 - min (-1074 : Int) 971).toNat = 0 := by decide
    rw [e2, Nat.pow_zero, Nat.mul_one]
    refine Nat.le_trans (Nat.le_of_lt h1) ?_
    obtain ⟨z, hz⟩ : ∃ z, 2 ^ 2045 = z := ⟨_, rfl⟩
    have := Nat.two_pow_pos 2045
    rw [hz] at this ⊢
    exact Nat.le_trans (by decide : 4503599627370496 ≤ 9007199254740991 * 1) (Nat.mul_le_mul_left _ this)
  · rw [if_neg h1]
    by_cases h2 : rungF b < infF
    · rw [if_pos h2, hno (by omega)]
      simp only [Datum.order]
      refine hle ?_
      have hr : rungF b / 4503599627370496 - 1 ≤ 2045 := by unfold infF at h2; omega
      generalize hq : rungF b / 4503599627370496 - 1 = q at hr
      have e1 : min (-1074 + (q : Int)) 971 = -1074 + q := by omega
      rw [e1]
      have e2 : (-1074 + (q : Int) - (-1074 + q)).toNat = 0 := by omega
      rw [e2, Nat.shiftLeft_eq, Nat.shiftLeft_eq, Nat.pow_zero, Nat.mul_one]
      have := Nat.two_pow_pos (971 - (-1074 + (q : Int))).toNat
      refine Nat.le_trans (by omega : _ ≤ 9007199254740991 * 1) (Nat.mul_le_mul_left _ this)
    · rw [if_neg h2]
      by_cases h3 : rungF b = infF
      · rw [if_pos h3]
        simp only [Datum.order]
        cases negF b <;> simp [h3]
      · rw [if_neg h3, hno h3]
        simp [Datum.order]

theorem xor_low {r : Nat} (h : r < 2 ^ 63) : r ^^^ 2 ^ 63 = 2 ^ 63 + r := by
  apply Nat.eq_of_testBit_eq
  intro j
  rw [Nat.testBit_xor, Nat.testBit_two_pow]
  by_cases hj : j < 63
  · rw [Nat.testBit_two_pow_add_gt hj, decide_eq_false (by omega)]; simp
  · by_cases hj2 : j = 63
    · subst hj2
      rw [Nat.testBit_two_pow_add_eq, Nat.testBit_lt_two_pow h]; simp
    · have h1 : 2 ^ 64 ≤ 2 ^ j := Nat.pow_le_pow_right (by omega) (by omega)
      rw [Nat.testBit_lt_two_pow (by omega), Nat.testBit_lt_two_pow (by omega), decide_eq_false (by omega)]; simp
theorem neg_eq (b : Nat) (hb : b < 18446744073709551616) : Go.Op.negFloat .f64 b = if negF b then b - 9223372036854775808 else b + 9223372036854775808 := by
  unfold Go.Op.negFloat negF
  show b ^^^ 2 ^ 63 = _
  by_cases h : 9223372036854775808 ≤ b
  · rw [if_pos (by simpa using h)]
    obtain ⟨r, rfl⟩ : ∃ r, b = 2 ^ 63 + r := ⟨b - 2 ^ 63, by omega⟩
    rw [← xor_low (by omega : r < 2 ^ 63), Nat.xor_assoc, Nat.xor_self, Nat.xor_zero, xor_low (by omega : r < 2 ^ 63)]
    omega
  · rw [if_neg (by simpa using h), xor_low (by omega), Nat.add_comm]
end Go.Proofs.Ytblpnohfileibaa
