/- slices.Sort at int64, on a row of the call's own. -/
import Derived.Test.YtcmahpddjggcaaaGreatDoorKIx10
import Derived.Test.YtcmahpddjggcaaaGreatDoorShelf
import Derived.Sort.OwnSortedInts
namespace Go.Proofs.YtcmahpddjggcaaaGreatDoor
open Go Go.RowKit
theorem reps_ints {I : Nat → Prop} {w : World} : ∀ {l : List Int} {cs : List Value}, Reps ((Ty.int .i64).rep I w) l cs → cs = l.map (Value.int .i64)
  | [], _, h => h
  | x :: xs, _, ⟨c1, c2, e, h1, h2⟩ => by
    have := reps_ints h2
    have h1' : c1 = [.int .i64 x] := h1
    rw [e, h1', this]; rfl
theorem ints_reps {I : Nat → Prop} {w : World} : ∀ l : List Int, Reps ((Ty.int .i64).rep I w) l (l.map (Value.int .i64))
  | [] => rfl
  | x :: xs => ⟨[.int .i64 x], xs.map (Value.int .i64), rfl, rfl, ints_reps xs⟩
theorem sort_i64 (v : Value) (l : List Int) (B : Nat) (w : World) (hO : Own (Ty.int .i64) 2 B (fun _ => True) w v l) (hs : l.length ≤ BIG) :
    Calls Tryz.prog 184 #[v] w fun e w' => e = .returned (.tuple #[]) ∧ ∃ l', l'.length = l.length ∧ Own (Ty.int .i64) 2 B (fun _ => True) w' v l' ∧ w.grownBy w' v.ownBlock := by
  obtain ⟨inner, hown, hr⟩ := hO
  have hin := reps_ints hr
  subst hin
  have hown0 := hown
  rcases hown.2 with ⟨rfl, h0⟩ | ⟨g, cap, cur, rfl, hB, hb, h1, h2, h3, h4⟩
  · have hl : l = [] := List.eq_nil_of_length_eq_zero h0
    subst hl
    refine (AnyG.slices_Sort_int_none Tryz.laysSort none 0 w).mono ?_
    rintro e w' ⟨rfl, rfl⟩
    exact ⟨rfl, [], rfl, ⟨[], hown0, rfl⟩, rfl, rfl, rfl, Nat.le_refl _, fun _ _ _ => rfl⟩
  · have h4' : cur.toList.take l.length = l.map (Value.int .i64) := by
      have : l.length * (Ty.int .i64).sz = l.length := Nat.mul_one _
      rwa [this] at h4
    refine (AnyG.slices_Sort_int Tryz.laysSort g 0 cap l w (holds_of_blockI hb h4') (Array.getElem?_eq_some_iff.1 hb).1 (by rw [BIG_eq] at hs; omega)).mono ?_
    rintro e w' ⟨rfl, n, os, rfl⟩
    have hlen : (l.mergeSort fun x y => decide (x ≤ y)).length = l.length := List.length_mergeSort _
    refine ⟨rfl, l.mergeSort fun x y => decide (x ≤ y), hlen, ⟨_, ?_, ints_reps _⟩, grownBy_sortedI _⟩
    rw [hlen]
    exact ownsRow_sortedI (ss := l) hlen hB hb h1 h2 h3
end Go.Proofs.YtcmahpddjggcaaaGreatDoor
