/- Arguments that came in, opened: slices of bytes and of numbers, as the walks read them. -/
import Derived.Test.YtfdafkjoienpmaaBase
import Derived.ChangeSlices
import Derived.Deep.Slices
namespace Go.Proofs.Ytfdafkjoienpmaa
open Go.RowKit Go.ChangeShapes Go.WideShapes

section
variable {H : Type} {enc : TypeId × Value → H} {P : Program} {w : World} {base : Nat} {spare : Nat → Bool} {held : Bool}

theorem u8_back {z : Int} (h : (Lit.int .u8 z).wf = true) : Value.int .u8 z = bv (UInt8.ofNat z.toNat) := by
  have hx : 0 ≤ z ∧ z ≤ 255 := by simpa [Lit.wf, IntKind.min, IntKind.max, IntKind.signed, IntKind.bits] using h
  unfold bv
  congr 1
  simp [UInt8.toNat_ofNat']
  omega

theorem rd_of_cells {k : IntKind} {a : Addr} {len : Nat} {zs : List Int} (hl : len ≤ zs.length) (hc : ∀ i, i < zs.length → w.cell? (a.add i) = some (.int k (zs.getD i 0))) :
    Rd w 1 (some a) len ((zs.take len).map (Value.int k)) := by
  refine ⟨by rw [List.length_map, List.length_take]; omega, fun hn => ?_⟩
  obtain ⟨b, o, spot⟩ := a
  have h0 := hc 0 (by omega)
  have hspot : spot = none := by simpa [Addr.add] using World.cell?_spot h0
  subst hspot
  refine ⟨b, o, rfl, fun j u hu => ?_⟩
  have hj : j < len := by
    have := (List.getElem?_eq_some_iff.1 hu).1
    rw [List.length_map, List.length_take] at this
    omega
  have := hc j (by omega)
  rw [add_plain] at this
  rw [this]
  rw [List.getElem?_map, List.getElem?_take, if_pos hj] at hu
  rw [List.getD_eq_getElem?_getD]
  cases hz : zs[j]? with
  | none => rw [hz] at hu; cases hu
  | some z => rw [hz] at hu; simpa using hu

theorem open_ints_rd {t e : TypeId} {k : IntKind} {fuel : Nat} {A : Option Addr} {n c : Nat} {x : DataW H × List MemPlace} (ht : P.underlying t = some (.slice e)) (he : P.underlying e = some (.int k)) (hc : P.cellsOf e = 1)
    (h : DataW.trod enc P w base spare held fuel t [.slice A n c] = some x) :
    ∃ zs : List Int, Rd w 1 A n (zs.map (Value.int k)) ∧ zs.length = n ∧ (∀ z ∈ zs, (Lit.int k z).wf = true) ∧ (A = none → n = 0) ∧ ∀ B, (∀ q ∈ x.1.weights P t, q ≤ B) → n * P.bytesOf e ≤ B := by
  rcases open_ints ht he hc h with ⟨hcs, rfl⟩ | ⟨a, len, cap, zs, hcs, _, hl, hm, hz, rfl, hcell, hwz⟩
  · simp only [List.cons.injEq, Value.slice.injEq, and_true] at hcs
    obtain ⟨rfl, rfl, rfl⟩ := hcs
    exact ⟨[], ⟨rfl, fun h => absurd h (Nat.lt_irrefl _)⟩, rfl, fun z hz => absurd hz List.not_mem_nil, fun _ => rfl, fun B _ => by omega⟩
  · simp only [List.cons.injEq, Value.slice.injEq, and_true] at hcs
    obtain ⟨rfl, rfl, rfl⟩ := hcs
    have hle : n ≤ zs.length := by rw [hz]; split <;> omega
    refine ⟨zs.take n, rd_of_cells hle hcell, by rw [List.length_take]; omega, fun z hz => hwz z (List.mem_of_mem_take hz), (fun h => by cases h), fun B hB => ?_⟩
    have := hB (((lits (H := H) k (zs.take n)).length + (lits (H := H) k (zs.drop n)).length) * P.bytesOf e) (by simp [DataW.weights, ht])
    refine Nat.le_trans (Nat.mul_le_mul_right _ ?_) this
    simp [lits]
    omega

theorem open_bytes_rd {t e : TypeId} {fuel : Nat} {A : Option Addr} {n c : Nat} {x : DataW H × List MemPlace} (ht : P.underlying t = some (.slice e)) (he : P.underlying e = some (.int .u8)) (hc : P.cellsOf e = 1)
    (h : DataW.trod enc P w base spare held fuel t [.slice A n c] = some x) :
    ∃ l : List UInt8, By w A n l ∧ (A = none → n = 0) ∧ ∀ B, (∀ q ∈ x.1.weights P t, q ≤ B) → n * P.bytesOf e ≤ B := by
  obtain ⟨zs, hr, _, hwf, hn, hB⟩ := open_ints_rd ht he hc h
  refine ⟨zs.map fun z => UInt8.ofNat z.toNat, ?_, hn, hB⟩
  unfold By
  rw [List.map_map]
  have : zs.map (Value.int .u8) = zs.map (bv ∘ fun z => UInt8.ofNat z.toNat) := List.map_congr_left fun z hz => u8_back (hwf z hz)
  rw [← this]
  exact hr
end
end Go.Proofs.Ytfdafkjoienpmaa
