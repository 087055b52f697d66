/- What is written into a row of one's own: copy, clear, an append with room, of elements of any size. -/
import Derived.Test.YtcmahpddjggcaaaGreatDoorKWalk
import Derived.Laws.IdiomCopy
import Derived.Laws.CopyOwn
import Derived.Lib.SliceRun
import Derived.Lib.AppendZerosOnto
namespace Go.Proofs.YtcmahpddjggcaaaGreatDoor
open Go Go.RowKit
set_option maxHeartbeats 1000000

/-- A list, written over from o on. -/
def lay (l : List Value) (o : Nat) (vs : List Value) : List Value := l.take o ++ vs ++ l.drop (o + vs.length)
theorem lay_len {l : List Value} {o : Nat} {vs : List Value} (h : o + vs.length ≤ l.length) : (lay l o vs).length = l.length := by
  simp only [lay, List.length_append, List.length_take, List.length_drop]; omega
theorem lay_cons (l : List Value) (o : Nat) (v : Value) (vs : List Value) (h : o + (vs.length + 1) ≤ l.length) : lay (l.set o v) (o + 1) vs = lay l o (v :: vs) := by
  have h0 : o < l.length := by omega
  unfold lay
  rw [List.take_set, List.drop_set]
  rw [if_pos (by omega), List.take_add_one, List.getElem?_eq_getElem h0]
  rw [List.set_append_right _ _ (by rw [List.length_take]; omega)]
  simp only [List.length_take, Nat.min_eq_left (Nat.le_of_lt h0), Nat.sub_self, Option.toList_some, List.set_cons_zero, List.append_assoc, List.cons_append, List.nil_append, List.length_cons]
  rw [show o + 1 + vs.length = o + (vs.length + 1) by omega]
theorem setCells_heap (g : Nat) (t : TypeId) : ∀ (vs : List Value) (o : Nat) (w : World) (cur : List Value), w.heap[g]? = some (.cells cur.toArray t (0, 0)) → o + vs.length ≤ cur.length →
    (w.setCells g o vs).heap[g]? = some (.cells (lay cur o vs).toArray t (0, 0)) ∧ w.grownBy (w.setCells g o vs) (some g)
  | [], o, w, cur, h, hl => by
    refine ⟨?_, ⟨rfl, rfl, rfl, Nat.le_refl _, fun _ _ _ => rfl⟩⟩
    simp only [World.setCells, lay, List.append_nil, List.length_nil, Nat.add_zero, List.take_append_drop]; exact h
  | v :: vs, o, w, cur, h, hl => by
    simp only [List.length_cons] at hl
    have hb : Blk w g cur t := h
    have h1 := hb.set o v
    obtain ⟨h2, h3⟩ := setCells_heap g t vs (o + 1) (w.setCell ⟨g, o, none⟩ v) (cur.set o v) h1 (by rw [List.length_set]; omega)
    refine ⟨?_, ?_⟩
    · rw [lay_cons cur o v vs (by omega)] at h2; exact h2
    · have h4 : w.grownBy (w.setCell ⟨g, o, none⟩ v) (some g) := ⟨rfl, rfl, rfl, by rw [size_setCell]; exact Nat.le_refl _, fun k _ hk => Below.heap_setCell w ⟨g, o, none⟩ v k (fun e => hk (by rw [e]))⟩
      exact h4.trans h3
theorem isSome_blk {w : World} {g : Nat} {cur : List Value} {t : TypeId} (h : Blk w g cur t) {j : Nat} (hj : j < cur.length) : (w.cell? ⟨g, j, none⟩).isSome = true := by
  rw [h.rd.1, List.getElem?_eq_getElem hj]; rfl
/-- copy, elements of any size. -/
theorem copy_run (P : Program) (w : World) (dT sT ty elem : TypeId) (sz : Nat) (b o dLen dCap : Nat) (a : Addr) (sLen sCap : Nat) (cs : List Value)
    (hu : P.underlying dT = some (.slice elem)) (hs : (P.info? elem).map (·.size) = some sz) (hn : cs.length = Nat.min sLen dLen * sz)
    (hsrc : ∀ j v, cs[j]? = some v → w.cell? (a.add j) = some v) (hc : ∀ j, j < cs.length → (w.cell? ⟨b, o + j, none⟩).isSome = true) (hf : ∀ j, j < cs.length → w.frozen? ⟨b, o + j, none⟩ = false) (h1 : ∀ v ∈ cs, v.oneCell' = true) :
    (Builtin.copy_ #[dT, sT] ty #[.slice (some ⟨b, o, none⟩) dLen dCap, .slice (some a) sLen sCap]).run P w = .ok (goInt (Nat.min sLen dLen)) (w.setCells b o cs) := by
  have hl := run_loadCells_list (P := P) w a cs hsrc
  have hst := run_storeCells_cells (P := P) b o cs 0 w (by simpa using hc) (by simpa using hf) h1
  cases hq : P.info? elem with
  | none => simp [hq] at hs
  | some i =>
    have hi : i.size = sz := by simpa [hq] using hs
    simp [Builtin.copy_, run_underlying hu, Builtin.lenOf, Builtin.firstCells, sizeOf, typeInfo, hq, hi, ← hn, hl, hst]
theorem clear_run (P : Program) (w : World) (t e ty : TypeId) (z : Value) (ht : P.underlying t = some (.slice e)) (hv : ∀ w, (zeroValue e).run P w = .ok z w) (b o n c : Nat) (hn : 0 < n) (zs : List Value) (hz : (Builtin.zeroCells z.cells n).toList = zs)
    (h1 : ∀ v ∈ zs, v.oneCell' = true) (hc : ∀ j, j < zs.length → (w.cell? ⟨b, o + j, none⟩).isSome = true) (hf : ∀ j, j < zs.length → w.frozen? ⟨b, o + j, none⟩ = false) :
    (Builtin.clear_ #[t] ty #[.slice (some ⟨b, o, none⟩) n c]).run P w = .ok (.tuple #[]) (w.setCells b o zs) := by
  have hst := run_storeCells_cells (P := P) b o zs 0 w (by simpa using hc) (by simpa using hf) h1
  simp only [Nat.add_zero] at hst
  obtain ⟨m, rfl⟩ : ∃ m, n = m + 1 := ⟨n - 1, by omega⟩
  simp [Builtin.clear_, run_underlying ht, hv, hz, hst]
theorem Reps.cut {α : Type} {R : α → List Value → Prop} {sz : Nat} (hl : ∀ x cs, R x cs → cs.length = sz) : ∀ {xs : List α} {cs : List Value} (i : Nat), Reps R xs cs → Reps R (xs.take i) (cs.take (i * sz)) ∧ Reps R (xs.drop i) (cs.drop (i * sz))
  | [], cs, i, h => by
    have h' : cs = [] := h
    subst h'
    simp [Reps]
  | x :: xs, cs, 0, h => by simp only [List.take_zero, Nat.zero_mul, List.drop_zero]; exact ⟨rfl, h⟩
  | x :: xs, cs, i + 1, ⟨c1, c2, e, h1, h2⟩ => by
    have h3 := hl x c1 h1
    obtain ⟨k1, k2⟩ := Reps.cut hl i h2
    subst e
    have e1 : (c1 ++ c2).take ((i + 1) * sz) = c1 ++ c2.take (i * sz) := by
      rw [List.take_append, List.take_of_length_le (by rw [h3, Nat.succ_mul]; omega), h3, Nat.succ_mul, Nat.add_sub_cancel]
    have e2 : (c1 ++ c2).drop ((i + 1) * sz) = c2.drop (i * sz) := by
      rw [List.drop_append, List.drop_of_length_le (by rw [h3, Nat.succ_mul]; omega), h3, Nat.succ_mul, Nat.add_sub_cancel, List.nil_append]
    rw [e1, e2]
    exact ⟨⟨c1, _, rfl, h1, k1⟩, k2⟩
end Go.Proofs.YtcmahpddjggcaaaGreatDoor
