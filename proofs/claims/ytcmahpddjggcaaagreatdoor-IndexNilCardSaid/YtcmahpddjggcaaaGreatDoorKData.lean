/- The program's data: values, properties, nodes, relationships, graphs, changes: as Lean data, and what their cells say. -/
import Derived.Test.YtcmahpddjggcaaaGreatDoorKBase
namespace Go.Proofs.YtcmahpddjggcaaaGreatDoor
open Go Go.RowKit

/-- A value, by its kind. -/
inductive V where
  | mk (kind : Int) (b : Bool) (n : Int) (text : ByteArray) (keys : List ByteArray) (list : List V)
namespace V
def kind : V → Int | mk k _ _ _ _ _ => k
def bool : V → Bool | mk _ b _ _ _ _ => b
def int : V → Int | mk _ _ n _ _ _ => n
def text : V → ByteArray | mk _ _ _ t _ _ => t
def keys : V → List ByteArray | mk _ _ _ _ ks _ => ks
def list : V → List V | mk _ _ _ _ _ l => l
/-- The zero value. -/
def zero : V := mk 0 false 0 ⟨#[]⟩ [] []

/-- What induction on values says, of all in a list. -/
theorem ind {P : V → Prop} (h : ∀ k b n t ks l, (∀ x, x ∈ l → P x) → P (mk k b n t ks l)) : ∀ v, P v := by
  refine fun v => V.rec (motive_1 := P) (motive_2 := fun l => ∀ x, x ∈ l → P x) h (fun x hx => by cases hx) (fun y ys hy hys x hx => ?_) v
  rcases List.mem_cons.1 hx with rfl | hx
  · exact hy
  · exact hys x hx

def sumBy {α : Type} (f : α → Nat) : List α → Nat
  | [] => 0
  | x :: xs => f x + sumBy f xs
mutual
/-- How many values, keys and bytes there are. -/
def size : V → Nat
  | mk _ _ _ t ks l => 1 + t.size + (sumBy (fun s => 1 + s.size) ks) + sizes l
def sizes : List V → Nat
  | [] => 0
  | x :: xs => size x + sizes xs
end
theorem sizes_eq (l : List V) : sizes l = sumBy size l := by
  induction l with
  | nil => rfl
  | cons x xs ih => simp only [sizes, sumBy, ih]
theorem size_pos (v : V) : 1 ≤ v.size := by cases v; simp only [size]; omega
theorem sumBy_mem {α : Type} {f : α → Nat} {l : List α} {x : α} (h : x ∈ l) : f x ≤ sumBy f l := by
  induction l with
  | nil => cases h
  | cons y ys ih =>
    rcases List.mem_cons.1 h with rfl | h
    · simp only [sumBy]; omega
    · have := ih h; simp only [sumBy]; omega
theorem sumBy_len {α : Type} {f : α → Nat} (hf : ∀ x, 1 ≤ f x) (l : List α) : l.length ≤ sumBy f l := by
  induction l with
  | nil => simp [sumBy]
  | cons y ys ih => have := hf y; simp only [List.length_cons, sumBy]; omega
theorem sumBy_append {α : Type} (f : α → Nat) (l m : List α) : sumBy f (l ++ m) = sumBy f l + sumBy f m := by
  induction l with
  | nil => simp [sumBy]
  | cons y ys ih => simp only [List.cons_append, sumBy, ih]; omega
theorem size_eq (k : Int) (b : Bool) (n : Int) (t : ByteArray) (ks : List ByteArray) (l : List V) : (mk k b n t ks l).size = 1 + t.size + sumBy (fun s => 1 + s.size) ks + sumBy size l := by simp only [size, sizes_eq]

mutual
/-- What a value's six cells say. -/
def rep (I : Nat → Prop) (w : World) : V → List Value → Prop
  | mk k b n t ks l, cs => ∃ A1 c1 A2 c2, cs = [.int .i64 k, .bool b, .int .i64 n, .string t, .slice A1 ks.length c1, .slice A2 l.length c2] ∧ ks.length ≤ c1 ∧ l.length ≤ c2 ∧
      Row 1 (Ty.str.rep I w) I w A1 ks ∧ (l = [] ∨ ∃ b off, A2 = some ⟨b, off, none⟩ ∧ I b ∧ b < w.heap.size ∧ reps I w b off l)
def reps (I : Nat → Prop) (w : World) (b : Nat) : Nat → List V → Prop
  | _, [] => True
  | off, x :: xs => (∃ cs, rep I w x cs ∧ At w b off cs) ∧ reps I w b (off + 6) xs
end
theorem reps_row (I : Nat → Prop) (w : World) (b : Nat) (l : List V) : ∀ off, reps I w b off l ↔ RowFrom 6 (rep I w) w b off l := by
  induction l with
  | nil => intro off; simp only [reps, RowFrom]
  | cons x xs ih => intro off; simp only [reps, RowFrom, ih]
theorem rep_iff (I : Nat → Prop) (w : World) (k : Int) (b : Bool) (n : Int) (t : ByteArray) (ks : List ByteArray) (l : List V) (cs : List Value) : rep I w (mk k b n t ks l) cs ↔
    ∃ A1 c1 A2 c2, cs = [.int .i64 k, .bool b, .int .i64 n, .string t, .slice A1 ks.length c1, .slice A2 l.length c2] ∧ ks.length ≤ c1 ∧ l.length ≤ c2 ∧ Row 1 (Ty.str.rep I w) I w A1 ks ∧ Row 6 (rep I w) I w A2 l := by
  simp only [rep, Row, reps_row]

theorem RowFrom.imp_mem {α : Type} {sz : Nat} {R R' : α → List Value → Prop} {w w' : World} {b b' : Nat} (hw : ∀ o cs, At w b o cs → At w' b' o cs) :
    ∀ {xs : List α} {off : Nat}, (∀ x, x ∈ xs → ∀ cs, R x cs → R' x cs) → RowFrom sz R w b off xs → RowFrom sz R' w' b' off xs
  | [], _, _, _ => trivial
  | _ :: _, _, hR, ⟨⟨cs, h1, h2⟩, h3⟩ => ⟨⟨cs, hR _ (by simp) _ h1, hw _ _ h2⟩, RowFrom.imp_mem hw (fun x hx => hR x (by simp [hx])) h3⟩
theorem Row.imp_mem {α : Type} {sz : Nat} {R R' : α → List Value → Prop} {I I' : Nat → Prop} {w w' : World} {A : Option Addr} {xs : List α} (hR : ∀ x, x ∈ xs → ∀ cs, R x cs → R' x cs) (hI : ∀ b, I b → b < w.heap.size → I' b ∧ b < w'.heap.size)
    (hm : ∀ b, I b → b < w.heap.size → w'.heap[b]? = w.heap[b]?) (h : Row sz R I w A xs) : Row sz R' I' w' A xs := by
  rcases h with h | ⟨b, off, hA, hb, hl, h⟩
  · exact .inl h
  · exact .inr ⟨b, off, hA, (hI b hb hl).1, (hI b hb hl).2, RowFrom.imp_mem (fun _ _ ha => ha.move (hm b hb hl)) hR h⟩

theorem rep_len {I : Nat → Prop} {w : World} {x : V} {cs : List Value} (h : rep I w x cs) : cs.length = 6 := by
  obtain ⟨k, b, n, t, ks, l⟩ := x
  obtain ⟨A1, c1, A2, c2, rfl, _⟩ := (rep_iff ..).1 h
  rfl
theorem rep_imp {I J : Nat → Prop} {w w' : World} (hI : ∀ b, I b → b < w.heap.size → J b ∧ b < w'.heap.size) (hm : ∀ b, I b → b < w.heap.size → w'.heap[b]? = w.heap[b]?) : ∀ (x : V) {cs : List Value}, rep I w x cs → rep J w' x cs := by
  intro x
  induction x using V.ind with
  | h k b n t ks l ih =>
    intro cs h
    obtain ⟨A1, c1, A2, c2, rfl, h1, h2, h3, h4⟩ := (rep_iff ..).1 h
    exact (rep_iff ..).2 ⟨A1, c1, A2, c2, rfl, h1, h2, h3.imp (fun _ _ hs => hs) hI hm, Row.imp_mem (fun x hx cs hr => ih x hx hr) hI hm h4⟩
/-- Values. -/
def ty : Ty V where
  sz := 6
  rep := rep
  len := rep_len
  one := by
    intro I w x cs h u hu
    obtain ⟨k, b, n, t, ks, l⟩ := x
    obtain ⟨A1, c1, A2, c2, rfl, _⟩ := (rep_iff ..).1 h
    simp at hu
    rcases hu with rfl | rfl | rfl | rfl | rfl | rfl <;> rfl
  mono := fun hI h => rep_imp (fun b hb hl => ⟨hI b hb, hl⟩) (fun _ _ _ => rfl) _ h
  move := fun hm h => rep_imp (fun b hb hl => ⟨hb, lt_of_same (hm b hb hl) hl⟩) hm _ h
  lt := fun h => rep_imp (fun b hb hl => ⟨⟨hb, hl⟩, hl⟩) (fun _ _ _ => rfl) _ h
theorem rep_mk {I : Nat → Prop} {w : World} {k : Int} {b : Bool} {n : Int} {t : ByteArray} {ks : List ByteArray} {l : List V} {A1 A2 : Option Addr} {c1 c2 : Nat} (h1 : ks.length ≤ c1) (h2 : l.length ≤ c2)
    (h3 : Row 1 (Ty.str.rep I w) I w A1 ks) (h4 : Row 6 (ty.rep I w) I w A2 l) : ty.rep I w (mk k b n t ks l) [.int .i64 k, .bool b, .int .i64 n, .string t, .slice A1 ks.length c1, .slice A2 l.length c2] :=
  (rep_iff ..).2 ⟨A1, c1, A2, c2, rfl, h1, h2, h3, h4⟩
theorem rep_open {I : Nat → Prop} {w : World} {v : V} {cs : List Value} (h : ty.rep I w v cs) : ∃ A1 c1 A2 c2, cs = [.int .i64 v.kind, .bool v.bool, .int .i64 v.int, .string v.text, .slice A1 v.keys.length c1, .slice A2 v.list.length c2] ∧ v.keys.length ≤ c1 ∧ v.list.length ≤ c2 ∧
    Row 1 (Ty.str.rep I w) I w A1 v.keys ∧ Row 6 (ty.rep I w) I w A2 v.list := by
  obtain ⟨k, b, n, t, ks, l⟩ := v
  exact (rep_iff ..).1 h
end V

/-- A property. -/
structure PropD where
  key : ByteArray
  val : V
namespace PropD
def ty : Ty PropD := Ty.iso (Ty.pair Ty.str V.ty) fun p => (p.key, p.val)
def size (p : PropD) : Nat := 1 + p.key.size + p.val.size
end PropD
structure NodeD where
  id : Int
  labels : List ByteArray
  props : List PropD
namespace NodeD
def ty : Ty NodeD := Ty.iso (Ty.pair (Ty.int .i64) (Ty.pair (Ty.slice Ty.str) (Ty.slice PropD.ty))) fun n => (n.id, n.labels, n.props)
def size (n : NodeD) : Nat := 1 + V.sumBy (fun s => 1 + s.size) n.labels + V.sumBy PropD.size n.props
end NodeD
structure RelD where
  id : Int
  src : Int
  dst : Int
  type : ByteArray
  props : List PropD
namespace RelD
def ty : Ty RelD := Ty.iso (Ty.pair (Ty.int .i64) (Ty.pair (Ty.int .i64) (Ty.pair (Ty.int .i64) (Ty.pair Ty.str (Ty.slice PropD.ty))))) fun r => (r.id, r.src, r.dst, r.type, r.props)
def size (r : RelD) : Nat := 1 + r.type.size + V.sumBy PropD.size r.props
end RelD
structure GraphD where
  nodes : List NodeD
  rels : List RelD
  nextNode : Int
  nextRel : Int
namespace GraphD
def ty : Ty GraphD := Ty.iso (Ty.pair (Ty.slice NodeD.ty) (Ty.pair (Ty.slice RelD.ty) (Ty.pair (Ty.int .i64) (Ty.int .i64)))) fun g => (g.nodes, g.rels, g.nextNode, g.nextRel)
end GraphD
structure ChangeD where
  kind : Int
  id : Int
  other : Int
  node : NodeD
  rel : RelD
namespace ChangeD
def ty : Ty ChangeD := Ty.iso (Ty.pair (Ty.int .i64) (Ty.pair (Ty.int .i64) (Ty.pair (Ty.int .i64) (Ty.pair NodeD.ty RelD.ty)))) fun c => (c.kind, c.id, c.other, c.node, c.rel)
end ChangeD
end Go.Proofs.YtcmahpddjggcaaaGreatDoor
