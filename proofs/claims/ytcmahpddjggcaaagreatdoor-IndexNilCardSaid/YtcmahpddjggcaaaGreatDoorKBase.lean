/- What Go's data read as: kinds of data, each with what its cells say; rows of elements; rows of a call's own. No program in sight. -/
import Derived.Below
import Derived.Maps.AppendAt
import Derived.Deep.Draws
import Derived.Lib.Hide
import Derived.Deep.AppendLies
namespace Go.Proofs.YtcmahpddjggcaaaGreatDoor
open Go Go.RowKit

/-! ### Worlds -/
theorem below_drewN {B : Nat} {a w : World} (h : Below B a w) (n : Nat) : Below B a (w.drewN n) := ⟨h.os, h.tape, h.output, h.size, h.block⟩
theorem below_alloc' {B : Nat} {a w : World} (h : Below B a w) (hB : B ≤ a.heap.size) (o : Obj) : Below B a (w.alloc o) := h.alloc (Nat.le_trans hB h.size) o
/-- Old blocks stay: behind a call that turned nothing. -/
theorem below_call {B : Nat} {a w w' : World} (h : Below B a w) (hB : B ≤ w.heap.size) (k : Below w.heap.size w w') : Below B a w' := h.trans (k.mono hB)

/-- Behind a call: every old cell and every old mark reads as it did. -/
theorem bcell {W w1 : World} (hb : Below W.heap.size W w1) : (∀ b o, b < W.heap.size → w1.cell? ⟨b, o, none⟩ = W.cell? ⟨b, o, none⟩) ∧ (∀ b o, b < W.heap.size → w1.frozen? ⟨b, o, none⟩ = W.frozen? ⟨b, o, none⟩) :=
  ⟨fun b o h => hb.cell (p := ⟨b, o, none⟩) h, fun b o h => hb.frozen (p := ⟨b, o, none⟩) h⟩

/-- A block known whole. -/
def Blk (w : World) (n : Nat) (cs : List Value) (T : TypeId) : Prop := w.heap[n]? = some (.cells cs.toArray T (0, 0))
section
variable {w w' : World} {n : Nat} {cs : List Value} {T : TypeId}
theorem Blk.lt (h : Blk w n cs T) : n < w.heap.size := (Array.getElem?_eq_some_iff.1 h).1
theorem Blk.rd (h : Blk w n cs T) : (∀ o, w.cell? ⟨n, o, none⟩ = cs[o]?) ∧ (∀ o, w.frozen? ⟨n, o, none⟩ = false) := by
  unfold Blk at h
  exact ⟨fun o => by simp [World.cell?, h], fun o => by simp [World.frozen?, h]⟩
theorem Blk.facts (h : Blk w n cs T) : (∀ o, w.cell? ⟨n, o, none⟩ = cs[o]?) ∧ (∀ o, w.frozen? ⟨n, o, none⟩ = false) ∧ n < w.heap.size := ⟨h.rd.1, h.rd.2, h.lt⟩
theorem Blk.new (w : World) (cs : List Value) (T : TypeId) : Blk (w.alloc (.cells cs.toArray T)) w.heap.size cs T := heap_alloc_new w _
theorem Blk.same (h : Blk w n cs T) (hs : w'.heap[n]? = w.heap[n]?) : Blk w' n cs T := Eq.trans hs h
theorem Blk.alloc (h : Blk w n cs T) (o : Obj) : Blk (w.alloc o) n cs T := h.same (heap_alloc_old w o n h.lt)
theorem Blk.below (h : Blk w n cs T) (hb : Below w.heap.size w w') : Blk w' n cs T := h.same (hb.block n h.lt)
theorem Blk.belowB {B : Nat} (h : Blk w n cs T) (hb : Below B w w') (hn : n < B) : Blk w' n cs T := h.same (hb.block n hn)
theorem Blk.grown {row : Option Nat} (h : Blk w n cs T) (hg : w.grownBy w' row) (hn : some n ≠ row) : Blk w' n cs T := h.same (hg.block n h.lt hn)
theorem Blk.drewN (h : Blk w n cs T) (k : Nat) : Blk (w.drewN k) n cs T := h
theorem Blk.set (h : Blk w n cs T) (j : Nat) (v : Value) : Blk (w.setCell ⟨n, j, none⟩ v) n (cs.set j v) T := by
  unfold Blk at h ⊢
  have hl := (Array.getElem?_eq_some_iff.1 h).1
  simp only [World.setCell, Array.getElem?_modify, if_true, h, Option.map_some]
  simp
theorem Blk.other (h : Blk w n cs T) {m : Nat} (hm : n ≠ m) (j : Nat) (v : Value) : Blk (w.setCell ⟨m, j, none⟩ v) n cs T := h.same (Below.heap_setCell w ⟨m, j, none⟩ v n hm)
end
theorem heap_set {b n : Nat} (h : b ≠ n) (w : World) (j : Nat) (v : Value) : (w.setCell ⟨n, j, none⟩ v).heap[b]? = w.heap[b]? := Below.heap_setCell w ⟨n, j, none⟩ v b h
theorem size_setCell (w : World) (a : Addr) (v : Value) : (w.setCell a v).heap.size = w.heap.size := by simp [World.setCell]

/-! ### A bound on all that is counted here -/
def BIG : Nat := 1073741824
theorem BIG_eq : BIG = 1073741824 := rfl

/-! ### Kinds -/
/-- A kind of data: how many cells it takes, and what they say; I: the blocks that are read lie in it. -/
structure Ty (α : Type) where
  sz : Nat
  rep : (Nat → Prop) → World → α → List Value → Prop
  len : ∀ {I w x cs}, rep I w x cs → cs.length = sz
  one : ∀ {I w x cs}, rep I w x cs → ∀ u ∈ cs, u.oneCell' = true
  mono : ∀ {I J : Nat → Prop} {w x cs}, (∀ b, I b → J b) → rep I w x cs → rep J w x cs
  move : ∀ {I : Nat → Prop} {w w' : World} {x cs}, (∀ b, I b → b < w.heap.size → w'.heap[b]? = w.heap[b]?) → rep I w x cs → rep I w' x cs
  lt : ∀ {I : Nat → Prop} {w : World} {x cs}, rep I w x cs → rep (fun b => I b ∧ b < w.heap.size) w x cs

/-- Cells lie at a place. -/
def At (w : World) (b off : Nat) (cs : List Value) : Prop := ∀ j u, cs[j]? = some u → w.cell? ⟨b, off + j, none⟩ = some u

/-- Elements, one behind the other. -/
def RowFrom {α : Type} (sz : Nat) (R : α → List Value → Prop) (w : World) (b : Nat) : Nat → List α → Prop
  | _, [] => True
  | off, x :: xs => (∃ cs, R x cs ∧ At w b off cs) ∧ RowFrom sz R w b (off + sz) xs

theorem RowFrom.get {α : Type} {sz : Nat} {R : α → List Value → Prop} {w : World} {b : Nat} : ∀ {xs : List α} {off : Nat}, RowFrom sz R w b off xs →
    ∀ i x, xs[i]? = some x → ∃ cs, R x cs ∧ At w b (off + i * sz) cs
  | [], _, _, i, x, h => by simp at h
  | y :: ys, off, h, 0, x, hx => by
    have : y = x := by simpa using hx
    subst this
    simpa using h.1
  | y :: ys, off, h, i + 1, x, hx => by
    obtain ⟨cs, h1, h2⟩ := RowFrom.get h.2 i x (by simpa using hx)
    exact ⟨cs, h1, by rwa [Nat.add_mul, Nat.one_mul, Nat.add_comm (i * sz), ← Nat.add_assoc]⟩
theorem RowFrom.imp {α : Type} {sz : Nat} {R R' : α → List Value → Prop} {w w' : World} {b b' : Nat} (hR : ∀ x cs, R x cs → R' x cs) (hw : ∀ o cs, At w b o cs → At w' b' o cs) :
    ∀ {xs : List α} {off : Nat}, RowFrom sz R w b off xs → RowFrom sz R' w' b' off xs
  | [], _, _ => trivial
  | _ :: _, _, ⟨⟨cs, h1, h2⟩, h3⟩ => ⟨⟨cs, hR _ _ h1, hw _ _ h2⟩, RowFrom.imp hR hw h3⟩
theorem RowFrom.drop {α : Type} {sz : Nat} {R : α → List Value → Prop} {w : World} {b : Nat} : ∀ {xs : List α} {off : Nat}, RowFrom sz R w b off xs → ∀ i, RowFrom sz R w b (off + i * sz) (xs.drop i)
  | [], _, _, i => by simp [RowFrom]
  | _ :: _, off, h, 0 => by simpa using h
  | _ :: _, off, h, i + 1 => by
    have := RowFrom.drop h.2 i
    rw [Nat.add_mul, Nat.one_mul, Nat.add_comm (i * sz), ← Nat.add_assoc]
    simpa using this
theorem RowFrom.take {α : Type} {sz : Nat} {R : α → List Value → Prop} {w : World} {b : Nat} : ∀ {xs : List α} {off : Nat}, RowFrom sz R w b off xs → ∀ i, RowFrom sz R w b off (xs.take i)
  | [], _, _, i => by simp [RowFrom]
  | _ :: _, off, h, 0 => by simp [RowFrom]
  | _ :: _, off, h, i + 1 => ⟨h.1, RowFrom.take h.2 i⟩
theorem At.lt {w : World} {b off : Nat} {u : Value} {us : List Value} (h : At w b off (u :: us)) : b < w.heap.size := World.block_lt_of_cell? w ⟨b, off, none⟩ (by simpa using h 0 u rfl)
theorem At.move {w w' : World} {b off : Nat} {cs : List Value} (hb : w'.heap[b]? = w.heap[b]?) (h : At w b off cs) : At w' b off cs := fun j u hj => (World.cell?_of_block (a := ⟨b, off + j, none⟩) hb).trans (h j u hj)

theorem At.below {w w' : World} {B b off : Nat} {cs : List Value} (hb : b < B) (hB : Below B w w') (h : At w b off cs) : At w' b off cs := h.move (hB.block b hb)
section
variable {w : World} {b off : Nat} {c0 c1 c2 c3 c4 c5 c6 : Value}
theorem At.one (h : At w b off [c0]) : w.cell? ⟨b, off, none⟩ = some c0 := h 0 _ rfl
theorem At.three (h : At w b off [c0, c1, c2]) : w.cell? ⟨b, off, none⟩ = some c0 ∧ w.cell? ⟨b, off + 1, none⟩ = some c1 ∧ w.cell? ⟨b, off + 2, none⟩ = some c2 := ⟨h 0 _ rfl, h 1 _ rfl, h 2 _ rfl⟩
theorem At.four (h : At w b off [c0, c1, c2, c3]) : w.cell? ⟨b, off, none⟩ = some c0 ∧ w.cell? ⟨b, off + 1, none⟩ = some c1 ∧ w.cell? ⟨b, off + 2, none⟩ = some c2 ∧ w.cell? ⟨b, off + 3, none⟩ = some c3 := ⟨h 0 _ rfl, h 1 _ rfl, h 2 _ rfl, h 3 _ rfl⟩
theorem At.five (h : At w b off [c0, c1, c2, c3, c4]) : w.cell? ⟨b, off, none⟩ = some c0 ∧ w.cell? ⟨b, off + 1, none⟩ = some c1 ∧ w.cell? ⟨b, off + 2, none⟩ = some c2 ∧ w.cell? ⟨b, off + 3, none⟩ = some c3 ∧ w.cell? ⟨b, off + 4, none⟩ = some c4 := ⟨h 0 _ rfl, h 1 _ rfl, h 2 _ rfl, h 3 _ rfl, h 4 _ rfl⟩
theorem At.six (h : At w b off [c0, c1, c2, c3, c4, c5]) : w.cell? ⟨b, off, none⟩ = some c0 ∧ w.cell? ⟨b, off + 1, none⟩ = some c1 ∧ w.cell? ⟨b, off + 2, none⟩ = some c2 ∧ w.cell? ⟨b, off + 3, none⟩ = some c3 ∧ w.cell? ⟨b, off + 4, none⟩ = some c4 ∧ w.cell? ⟨b, off + 5, none⟩ = some c5 := ⟨h 0 _ rfl, h 1 _ rfl, h 2 _ rfl, h 3 _ rfl, h 4 _ rfl, h 5 _ rfl⟩
theorem At.seven (h : At w b off [c0, c1, c2, c3, c4, c5, c6]) : w.cell? ⟨b, off, none⟩ = some c0 ∧ w.cell? ⟨b, off + 1, none⟩ = some c1 ∧ w.cell? ⟨b, off + 2, none⟩ = some c2 ∧ w.cell? ⟨b, off + 3, none⟩ = some c3 ∧ w.cell? ⟨b, off + 4, none⟩ = some c4 ∧ w.cell? ⟨b, off + 5, none⟩ = some c5 ∧ w.cell? ⟨b, off + 6, none⟩ = some c6 := ⟨h 0 _ rfl, h 1 _ rfl, h 2 _ rfl, h 3 _ rfl, h 4 _ rfl, h 5 _ rfl, h 6 _ rfl⟩
end
theorem take_snoc' {α : Type} {l : List α} {k : Nat} {x : α} (h : l[k]? = some x) : l.take (k + 1) = l.take k ++ [x] := by rw [List.take_add_one, h]; rfl
theorem get_some {α : Type} {l : List α} {k : Nat} (h : k < l.length) : ∃ x, l[k]? = some x ∧ x ∈ l := ⟨_, List.getElem?_eq_getElem h, List.getElem_mem h⟩

/-- A slice's elements: none, or a row in one block. -/
def Row {α : Type} (sz : Nat) (R : α → List Value → Prop) (I : Nat → Prop) (w : World) (A : Option Addr) (xs : List α) : Prop :=
  xs = [] ∨ ∃ b off, A = some ⟨b, off, none⟩ ∧ I b ∧ b < w.heap.size ∧ RowFrom sz R w b off xs

theorem Row.imp {α : Type} {sz : Nat} {R R' : α → List Value → Prop} {I I' : Nat → Prop} {w w' : World} {A : Option Addr} {xs : List α} (hR : ∀ x cs, R x cs → R' x cs) (hI : ∀ b, I b → b < w.heap.size → I' b ∧ b < w'.heap.size)
    (hm : ∀ b, I b → b < w.heap.size → w'.heap[b]? = w.heap[b]?) (h : Row sz R I w A xs) : Row sz R' I' w' A xs := by
  rcases h with h | ⟨b, off, hA, hb, hl, h⟩
  · exact .inl h
  · exact .inr ⟨b, off, hA, (hI b hb hl).1, (hI b hb hl).2, h.imp hR fun _ _ ha => ha.move (hm b hb hl)⟩
theorem Row.get {α : Type} {sz : Nat} {R : α → List Value → Prop} {I : Nat → Prop} {w : World} {A : Option Addr} {xs : List α} (h : Row sz R I w A xs) {i : Nat} {x : α} (hx : xs[i]? = some x) :
    ∃ b off cs, A = some ⟨b, off, none⟩ ∧ I b ∧ b < w.heap.size ∧ R x cs ∧ At w b (off + i * sz) cs := by
  rcases h with rfl | ⟨b, off, hA, hb, hl, h⟩
  · simp at hx
  · obtain ⟨cs, h1, h2⟩ := h.get i x hx
    exact ⟨b, off, cs, hA, hb, hl, h1, h2⟩

theorem lt_of_same {w w' : World} {b : Nat} (h : w'.heap[b]? = w.heap[b]?) (hb : b < w.heap.size) : b < w'.heap.size := by
  rw [Array.getElem?_eq_getElem hb] at h
  exact (Array.getElem?_eq_some_iff.1 h).1

namespace Ty
def scalar {α : Type} (enc : α → Value) (h1 : ∀ x, (enc x).oneCell' = true) : Ty α where
  sz := 1
  rep := fun _ _ x cs => cs = [enc x]
  len := fun h => by rw [h]; rfl
  one := fun h u hu => by rw [h] at hu; rw [List.mem_singleton.1 hu]; exact h1 _
  mono := fun _ h => h
  move := fun _ h => h
  lt := fun h => h
def int (k : IntKind) : Ty Int := scalar (Value.int k) (fun _ => rfl)
def bool : Ty Bool := scalar Value.bool (fun _ => rfl)
def str : Ty ByteArray := scalar Value.string (fun _ => rfl)
def slice {α : Type} (d : Ty α) : Ty (List α) where
  sz := 1
  rep := fun I w xs cs => ∃ A c, cs = [.slice A xs.length c] ∧ xs.length ≤ c ∧ Row d.sz (d.rep I w) I w A xs
  len := by rintro I w x cs ⟨A, c, rfl, _⟩; rfl
  one := by rintro I w x cs ⟨A, c, rfl, _⟩ u hu; rw [List.mem_singleton.1 hu]; rfl
  mono := by
    rintro I J w x cs hI ⟨A, c, rfl, hl, h⟩
    exact ⟨A, c, rfl, hl, h.imp (fun _ _ => d.mono hI) (fun b hb hl => ⟨hI b hb, hl⟩) (fun _ _ _ => rfl)⟩
  move := by
    rintro I w w' x cs hm ⟨A, c, rfl, hl, h⟩
    exact ⟨A, c, rfl, hl, h.imp (fun _ _ => d.move hm) (fun b hb hl => ⟨hb, lt_of_same (hm b hb hl) hl⟩) hm⟩
  lt := by
    rintro I w x cs ⟨A, c, rfl, hl, h⟩
    exact ⟨A, c, rfl, hl, h.imp (fun _ _ => d.lt) (fun b hb hl => ⟨⟨hb, hl⟩, hl⟩) (fun _ _ _ => rfl)⟩
def pair {α β : Type} (a : Ty α) (b : Ty β) : Ty (α × β) where
  sz := a.sz + b.sz
  rep := fun I w x cs => ∃ c0 c1, cs = c0 ++ c1 ∧ a.rep I w x.1 c0 ∧ b.rep I w x.2 c1
  len := by rintro I w x cs ⟨c0, c1, rfl, h0, h1⟩; rw [List.length_append, a.len h0, b.len h1]
  one := by
    rintro I w x cs ⟨c0, c1, rfl, h0, h1⟩ u hu
    rcases List.mem_append.1 hu with hu | hu
    · exact a.one h0 u hu
    · exact b.one h1 u hu
  mono := by rintro I J w x cs hI ⟨c0, c1, rfl, h0, h1⟩; exact ⟨c0, c1, rfl, a.mono hI h0, b.mono hI h1⟩
  move := by rintro I w w' x cs hm ⟨c0, c1, rfl, h0, h1⟩; exact ⟨c0, c1, rfl, a.move hm h0, b.move hm h1⟩
  lt := by rintro I w x cs ⟨c0, c1, rfl, h0, h1⟩; exact ⟨c0, c1, rfl, a.lt h0, b.lt h1⟩
def iso {α β : Type} (d : Ty α) (f : β → α) : Ty β where
  sz := d.sz
  rep := fun I w x cs => d.rep I w (f x) cs
  len := d.len
  one := d.one
  mono := d.mono
  move := d.move
  lt := d.lt

/-- What lay in an old world lies behind a call that turned none of its blocks. -/
theorem below {α : Type} (d : Ty α) {I : Nat → Prop} {w w' : World} {x : α} {cs : List Value} (hb : Below w.heap.size w w') (h : d.rep I w x cs) : d.rep I w' x cs :=
  d.move (fun b _ hl => hb.block b hl) h
theorem belowB {α : Type} (d : Ty α) {I : Nat → Prop} {B : Nat} {w w' : World} {x : α} {cs : List Value} (hI : ∀ b, I b → b < B) (hb : Below B w w') (h : d.rep I w x cs) : d.rep I w' x cs :=
  d.move (fun b hi _ => hb.block b (hI b hi)) h
theorem grown {α : Type} (d : Ty α) {I : Nat → Prop} {row : Option Nat} {w w' : World} {x : α} {cs : List Value} (hI : ∀ b, I b → some b ≠ row) (hg : w.grownBy w' row) (h : d.rep I w x cs) : d.rep I w' x cs :=
  d.move (fun b hi hl => hg.block b hl (hI b hi)) h
end Ty

/-! ### What calls hand back -/
def RetA {α : Type} (d : Ty α) (J : Nat → Prop) (w : World) (x : α) (e : Ending) (w' : World) : Prop := ∃ cs, e = .returned (.agg cs.toArray) ∧ d.rep J w' x cs ∧ Below w.heap.size w w'
def RetS {α : Type} (d : Ty α) (J : Nat → Prop) (w : World) (x : List α) (e : Ending) (w' : World) : Prop := ∃ v, e = .returned v ∧ (Ty.slice d).rep J w' x [v] ∧ Below w.heap.size w w'
def Fresh (w : World) (b : Nat) : Prop := w.heap.size ≤ b

/-! ### Rows of a call's own -/
/-- A list of cells cut into elements. -/
def Reps {α : Type} (R : α → List Value → Prop) : List α → List Value → Prop
  | [], cs => cs = []
  | x :: xs, cs => ∃ c1 c2, cs = c1 ++ c2 ∧ R x c1 ∧ Reps R xs c2
theorem Reps.imp {α : Type} {R R' : α → List Value → Prop} (h : ∀ x cs, R x cs → R' x cs) : ∀ {xs : List α} {cs : List Value}, Reps R xs cs → Reps R' xs cs
  | [], _, hc => hc
  | _ :: _, _, ⟨c1, c2, e, h1, h2⟩ => ⟨c1, c2, e, h _ _ h1, Reps.imp h h2⟩
theorem Reps.append {α : Type} {R : α → List Value → Prop} : ∀ {xs ys : List α} {cs ds : List Value}, Reps R xs cs → Reps R ys ds → Reps R (xs ++ ys) (cs ++ ds)
  | [], _, _, _, h, k => by cases h; exact k
  | _ :: _, _, _, _, ⟨c1, c2, e, h1, h2⟩, k => ⟨c1, c2 ++ _, by rw [e, List.append_assoc], h1, Reps.append h2 k⟩
theorem Reps.snoc {α : Type} {R : α → List Value → Prop} {xs : List α} {cs c : List Value} {x : α} (h : Reps R xs cs) (hx : R x c) : Reps R (xs ++ [x]) (cs ++ c) := h.append ⟨c, [], by simp, hx, rfl⟩
theorem Reps.rowFrom {α : Type} {R : α → List Value → Prop} {sz : Nat} (hl : ∀ x cs, R x cs → cs.length = sz) {w : World} {b : Nat} : ∀ {xs : List α} {cs : List Value} {off : Nat}, Reps R xs cs → At w b off cs → RowFrom sz R w b off xs
  | [], _, _, _, _ => trivial
  | x :: xs, cs, off, ⟨c1, c2, e, h1, h2⟩, ha => by
    subst e
    have hlen := hl _ _ h1
    refine ⟨⟨c1, h1, fun j u hj => ha j u ?_⟩, Reps.rowFrom hl h2 fun j u hj => ?_⟩
    · rw [List.getElem?_append_left (List.getElem?_eq_some_iff.1 hj).1]; exact hj
    · have := ha (sz + j) u (by rw [List.getElem?_append_right (by omega), hlen, Nat.add_sub_cancel_left]; exact hj)
      rwa [← Nat.add_assoc] at this

theorem Reps.len {α : Type} {R : α → List Value → Prop} {sz : Nat} (hl : ∀ x cs, R x cs → cs.length = sz) : ∀ {xs : List α} {cs : List Value}, Reps R xs cs → cs.length = xs.length * sz
  | [], _, h => by cases h; simp
  | x :: xs, _, ⟨c1, c2, e, h1, h2⟩ => by rw [e, List.length_append, hl _ _ h1, Reps.len hl h2, List.length_cons, Nat.add_mul]; omega
theorem Reps.one {α : Type} {R : α → List Value → Prop} (hl : ∀ x cs, R x cs → ∀ u ∈ cs, u.oneCell' = true) : ∀ {xs : List α} {cs : List Value}, Reps R xs cs → ∀ u ∈ cs, u.oneCell' = true
  | [], _, h => by cases h; simp
  | x :: xs, _, ⟨c1, c2, e, h1, h2⟩ => by
    subst e
    intro u hu
    rcases List.mem_append.1 hu with hu | hu
    · exact hl _ _ h1 u hu
    · exact Reps.one hl h2 u hu
/-- A row's cells, in one list. -/
theorem RowFrom.flat {α : Type} {R : α → List Value → Prop} {sz : Nat} (hl : ∀ x cs, R x cs → cs.length = sz) {w : World} {b : Nat} : ∀ {xs : List α} {off : Nat}, RowFrom sz R w b off xs → ∃ cs, Reps R xs cs ∧ At w b off cs
  | [], _, _ => ⟨[], rfl, fun j u h => by simp at h⟩
  | x :: xs, off, ⟨⟨c1, h1, h2⟩, h3⟩ => by
    obtain ⟨c2, h4, h5⟩ := RowFrom.flat hl h3
    refine ⟨c1 ++ c2, ⟨c1, c2, rfl, h1, h4⟩, fun j u hj => ?_⟩
    have hlen := hl _ _ h1
    rcases Nat.lt_or_ge j c1.length with hlt | hge
    · rw [List.getElem?_append_left hlt] at hj; exact h2 j u hj
    · rw [List.getElem?_append_right hge] at hj
      have := h5 (j - c1.length) u hj
      rwa [show off + sz + (j - c1.length) = off + j from by omega] at this

/-- A slice value v owns its elements' cells; the elements' own blocks lie in I, and none is the row's. -/
def Own {α : Type} (d : Ty α) (e : TypeId) (B : Nat) (I : Nat → Prop) (w : World) (v : Value) (xs : List α) : Prop :=
  ∃ inner, w.ownsRow B e d.sz v xs.length inner ∧ Reps (d.rep (fun b => I b ∧ some b ≠ v.ownBlock) w) xs inner
section
variable {α : Type} {d : Ty α} {e : TypeId} {B : Nat} {I J : Nat → Prop} {w w' : World} {v v' : Value} {xs : List α}
theorem Own.nil (d : Ty α) (e : TypeId) (B : Nat) (I : Nat → Prop) (w : World) : Own d e B I w (.slice none 0 0) [] := ⟨[], World.ownsRow_nil _ _ _ _, rfl⟩
theorem Own.mono (hI : ∀ b, I b → J b) (h : Own d e B I w v xs) : Own d e B J w v xs := by
  obtain ⟨inner, h1, h2⟩ := h
  exact ⟨inner, h1, h2.imp fun _ _ => d.mono fun b hb => ⟨hI b hb.1, hb.2⟩⟩
/-- Nothing of it has turned. -/
theorem Own.grown {row : Option Nat} (hI : ∀ b, I b → some b ≠ row) (hv : v.ownBlock = none ∨ v.ownBlock ≠ row) (hg : w.grownBy w' row) (h : Own d e B I w v xs) : Own d e B I w' v xs := by
  obtain ⟨inner, h1, h2⟩ := h
  exact ⟨inner, h1.kept hg hv, h2.imp fun _ _ => d.grown (fun b hb => hI b hb.1) hg⟩
theorem grownBy_of_below (hb : Below w.heap.size w w') : w.grownBy w' none := ⟨hb.os, hb.tape, hb.output, hb.size, fun k hk _ => hb.block k hk⟩
theorem Own.below (hb : Below w.heap.size w w') (h : Own d e B I w v xs) : Own d e B I w' v xs :=
  h.grown (row := none) (fun _ _ => by simp) (by cases v.ownBlock <;> simp) (grownBy_of_below hb)
/-- One more element, its cells made before; behind the law on append. -/
theorem Own.append {x : α} {cs : List Value} (h : Own d e B I w v xs) (hx : d.rep (fun b => I b ∧ some b ≠ v.ownBlock) w x cs) (hg : w.grownBy w' v.ownBlock)
    (hat : v'.ownBlock = v.ownBlock ∨ v'.ownBlock = some w.heap.size) (hown : ∀ inner, w.ownsRow B e d.sz v xs.length inner → w'.ownsRow B e d.sz v' (xs.length + 1) (inner ++ cs)) : Own d e B I w' v' (xs ++ [x]) := by
  obtain ⟨inner, h1, h2⟩ := h
  have key : ∀ {y c}, d.rep (fun b => I b ∧ some b ≠ v.ownBlock) w y c → d.rep (fun b => I b ∧ some b ≠ v'.ownBlock) w' y c := fun hy => by
    refine d.mono (fun b hb => ⟨hb.1.1, ?_⟩) (d.move (fun b hb hl => hg.block b hl hb.1.2) (d.lt hy))
    rcases hat with hat | hat
    · rw [hat]; exact hb.1.2
    · rw [hat]; intro he; injection he with he; have := hb.2; omega
  exact ⟨inner ++ cs, by simpa using hown inner h1, (h2.imp fun _ _ hy => key hy).snoc (key hx)⟩
/-- A whole row appended. -/
theorem Own.appendRow {ys : List α} {cs : List Value} (h : Own d e B I w v xs) (hx : Reps (d.rep (fun b => I b ∧ some b ≠ v.ownBlock) w) ys cs) (hg : w.grownBy w' v.ownBlock)
    (hat : v'.ownBlock = v.ownBlock ∨ v'.ownBlock = some w.heap.size) (hown : ∀ inner, w.ownsRow B e d.sz v xs.length inner → w'.ownsRow B e d.sz v' (xs.length + ys.length) (inner ++ cs)) : Own d e B I w' v' (xs ++ ys) := by
  obtain ⟨inner, h1, h2⟩ := h
  have key : ∀ {y c}, d.rep (fun b => I b ∧ some b ≠ v.ownBlock) w y c → d.rep (fun b => I b ∧ some b ≠ v'.ownBlock) w' y c := fun hy => by
    refine d.mono (fun b hb => ⟨hb.1.1, ?_⟩) (d.move (fun b hb hl => hg.block b hl hb.1.2) (d.lt hy))
    rcases hat with hat | hat
    · rw [hat]; exact hb.1.2
    · rw [hat]; intro he; injection he with he; have := hb.2; omega
  exact ⟨inner ++ cs, by simpa using hown inner h1, (h2.imp fun _ _ hy => key hy).append (hx.imp fun _ _ hy => key hy)⟩
theorem own_form {n : Nat} {inner : List Value} (h : w.ownsRow B e d.sz v n inner) : ∃ A c, v = .slice A n c ∧ n ≤ c ∧ (n = 0 ∨ ∃ g, A = some ⟨g, 0, none⟩ ∧ B ≤ g ∧ g < w.heap.size ∧ v.ownBlock = some g ∧ At w g 0 inner) := by
  have h0 := h
  rcases h.2 with ⟨rfl, rfl⟩ | ⟨g, cap, cur, rfl, hB, hh, hn, hc, hs, ht⟩
  · exact ⟨none, 0, rfl, Nat.le_refl _, .inl rfl⟩
  · refine ⟨some ⟨g, 0, none⟩, cap, rfl, hn, .inr ⟨g, rfl, hB, (Array.getElem?_eq_some_iff.1 hh).1, rfl, fun j u hj => ?_⟩⟩
    have := h0.cells (g := g) rfl j u hj
    have hadd : (⟨g, 0, none⟩ : Addr).add j = ⟨g, 0 + j, none⟩ := by unfold Addr.add; split <;> simp_all
    rwa [hadd] at this
/-- What is owned is a slice that is read. -/
theorem Own.slice (h : Own d e B I w v xs) : (Ty.slice d).rep (fun b => I b ∨ B ≤ b) w xs [v] := by
  obtain ⟨inner, h1, h2⟩ := h
  obtain ⟨A, c, rfl, hc, hr⟩ := own_form h1
  refine ⟨A, c, rfl, hc, ?_⟩
  rcases hr with hr | ⟨g, rfl, hB, hg, _, hat⟩
  · exact .inl (List.eq_nil_of_length_eq_zero hr)
  · exact .inr ⟨g, 0, rfl, .inr hB, hg, (h2.rowFrom (fun _ _ => d.len) hat).imp (fun _ _ => d.mono fun b hb => .inl hb.1) (fun _ _ hh => hh)⟩
theorem Own.form (h : Own d e B I w v xs) : ∃ A c, v = .slice A xs.length c := by
  obtain ⟨A, c, he, _⟩ := h.slice
  exact ⟨A, c, by simpa using he⟩
end
theorem Own.block {α : Type} {d : Ty α} {e : TypeId} {B : Nat} {I : Nat → Prop} {w : World} {v : Value} {xs : List α} (h : Own d e B I w v xs) {g : Nat} (hg : v.ownBlock = some g) : B ≤ g ∧ g < w.heap.size := by
  obtain ⟨inner, h1, _⟩ := h
  exact h1.lt g hg
/-- What was made since W0 lies apart from a row that was owned at W0. -/
theorem fresh_ok {α β : Type} {d : Ty α} {d' : Ty β} {e : TypeId} {B : Nat} {I I' : Nat → Prop} {W0 w : World} {v : Value} {xs : List β} {x : α} {cs : List Value} (hO : Own d' e B I' W0 v xs) (hI : ∀ b, W0.heap.size ≤ b → I b) (h : d.rep (Fresh W0) w x cs) :
    d.rep (fun b => I b ∧ some b ≠ v.ownBlock) w x cs :=
  d.mono (fun b hb => ⟨hI b hb, fun he => by have := (hO.block he.symm).2; have h2 : W0.heap.size ≤ b := hb; omega⟩) h
/-- What lay below the rows of one's own lies apart from them. -/
theorem old_ok {α β : Type} {d : Ty α} {d' : Ty β} {e : TypeId} {B : Nat} {I I' J : Nat → Prop} {W0 w : World} {v : Value} {xs : List β} {x : α} {cs : List Value} (hO : Own d' e B I' W0 v xs) (hJ : ∀ b, J b → b < B) (hI : ∀ b, J b → I b) (h : d.rep J w x cs) :
    d.rep (fun b => I b ∧ some b ≠ v.ownBlock) w x cs :=
  d.mono (fun b hb => ⟨hI b hb, fun he => by have := (hO.block he.symm).1; have h2 := hJ b hb; omega⟩) h

section
variable {P : Program} {ops : Array Oper} {rest : List Oper} {o : Oper} {a : Act} {Q : Exit → Act → World → Prop} {α : Type}
/-- append(v, x), behind 'at_builtin'; the goal's world is 'W.alloc' of the variadic's box. -/
theorem own_append (d : Ty α) {w0 W : World} (B : Nat) (hgd : o.guard = none) (s x : Operand) (t e : TypeId) (z : Value) (bytes : Nat)
    (ho : o.op = .call { callee := .builtin .append, args := #[s, x], argTypes := #[t, t] })
    (ht : P.underlying t = some (.slice e)) (hinfo : (P.info? e).map (fun i => (i.zero, i.size, i.bytes)) = some (some z, d.sz, bytes)) (hz : z.cells.size = d.sz) (hs0 : 0 < d.sz) (hb0 : bytes ≤ 1000)
    (v : Value) (xs : List α) (p : α) (cs : List Value) (I : Nat → Prop) (hs : a.eval s = v) (hx : a.eval x = .slice (some ⟨W.heap.size, 0, none⟩) 1 1) (hp : d.rep (fun b => I b ∧ some b ≠ v.ownBlock) W p cs)
    (HO : Own d e B I W v xs) (HB : Below B w0 W) (hB : B ≤ w0.heap.size) (hl : xs.length ≤ BIG)
    (h : ∀ v1 w1, Own d e B I w1 v1 (xs ++ [p]) → Below B w0 w1 → W.grownBy w1 v.ownBlock → (v1.ownBlock = v.ownBlock ∨ ∃ b, v1.ownBlock = some b ∧ W.heap.size ≤ b) → wpList P ops Q rest (a.put o.dst v1) w1) :
    wpList P ops Q (o :: rest) a (W.alloc (.cells cs.toArray e)) := by
  obtain ⟨i0, hi, hzz⟩ := Option.map_eq_some_iff.1 hinfo
  simp only [Prod.mk.injEq] at hzz
  obtain ⟨hz0, hz1, hz2⟩ := hzz
  have HO0 := HO
  have hbase : B ≤ W.heap.size := Nat.le_trans hB HB.size
  obtain ⟨inner, hown, hr⟩ := HO
  have hlen := d.len hp
  have hl1 : (xs.length + 1) * bytes ≤ 140737488355328 := by
    rw [BIG_eq] at hl
    calc (xs.length + 1) * bytes ≤ 1073741825 * 1000 := Nat.mul_le_mul (by omega) hb0
      _ ≤ 140737488355328 := by decide
  refine wpList_append_own_at (W.alloc (.cells cs.toArray e)) hgd s x t ho B e i0 z d.sz bytes ht hi hz0 hz1 hz2 hz hs0 v xs.length inner hs (hown.alloc _) ⟨W.heap.size, 0, none⟩ 1 1 cs hx (by rw [hlen]; simp)
    (by simpa using World.news_of_block (cs := cs.toArray) (t := e) (fr := (0, 0)) (heap_alloc_new W (.cells cs.toArray e))) (d.one hp) (by rw [BIG_eq] at hl; simp only [maxLen]; omega) hl1 (by simp; omega) ?_
  intro v1 w1 hown1 hg _ hat
  have hg' : W.grownBy w1 v.ownBlock := World.grownBy.trans (World.grownBy_alloc W _ _) hg
  have hat' : v1.ownBlock = v.ownBlock ∨ v1.ownBlock = some (W.alloc (.cells cs.toArray e)).heap.size := hat
  refine h v1 w1 ?_ ((HB.alloc hbase _).grown hg (by simp; omega) (fun k hk => (hown.lt k hk).1)) hg' ?_
  · have HO1 : Own d e B I (W.alloc (.cells cs.toArray e)) v xs := Own.grown (row := none) (fun _ _ => by simp) (by cases v.ownBlock <;> simp) (World.grownBy_alloc W _ _) HO0
    refine HO1.append (d.move (fun b _ hb => heap_alloc_old W _ b hb) hp) hg hat' (fun inner' h' => ?_)
    have hii : inner' = inner := by
      have h2 := hown.alloc (.cells cs.toArray e)
      rcases h'.2 with ⟨e1, e2⟩ | ⟨g, cap, cur, e1, _, hh, _, _, _, ht1⟩
      · have l1 := h'.1; have l2 := hown.1
        rw [e2, Nat.zero_mul] at l1 l2
        rw [List.eq_nil_of_length_eq_zero l1, List.eq_nil_of_length_eq_zero l2]
      · rcases h2.2 with ⟨e3, e4⟩ | ⟨g2, cap2, cur2, e3, _, hh2, _, _, _, ht2⟩
        · have l1 := h'.1; have l2 := hown.1
          rw [e4, Nat.zero_mul] at l1 l2
          rw [List.eq_nil_of_length_eq_zero l1, List.eq_nil_of_length_eq_zero l2]
        · rw [e1] at e3
          injection e3 with e3
          injection e3 with e3
          injection e3 with e3
          subst e3
          rw [hh] at hh2
          injection hh2 with hh2
          injection hh2 with hh2
          subst hh2
          rw [← ht1, ← ht2]
    rw [hii]; exact hown1
  · rcases hat with hat | hat
    · exact .inl hat
    · exact .inr ⟨_, hat, by simp⟩
end
end Go.Proofs.YtcmahpddjggcaaaGreatDoor
