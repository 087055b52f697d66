/- What the cells of properties, nodes, relationships, graphs, changes are, opened and shut. -/
import Derived.Test.YtcmahpddjggcaaaGreatDoorKData
namespace Go.Proofs.YtcmahpddjggcaaaGreatDoor
open Go Go.RowKit
variable {I : Nat → Prop} {w : World} {cs : List Value}
theorem PropD.rep_open {p : PropD} (h : PropD.ty.rep I w p cs) : ∃ A1 c1 A2 c2, cs = [.string p.key, .int .i64 p.val.kind, .bool p.val.bool, .int .i64 p.val.int, .string p.val.text, .slice A1 p.val.keys.length c1, .slice A2 p.val.list.length c2] ∧
    V.ty.rep I w p.val [.int .i64 p.val.kind, .bool p.val.bool, .int .i64 p.val.int, .string p.val.text, .slice A1 p.val.keys.length c1, .slice A2 p.val.list.length c2] := by
  obtain ⟨c0, c1, rfl, h0, h1⟩ := h
  obtain rfl := h0
  have h1' := h1
  obtain ⟨A1, c1, A2, c2, rfl, _⟩ := V.rep_open h1
  exact ⟨A1, c1, A2, c2, rfl, h1'⟩
theorem PropD.rep_mk {p : PropD} (h : V.ty.rep I w p.val cs) : PropD.ty.rep I w p (.string p.key :: cs) := ⟨[.string p.key], cs, rfl, rfl, h⟩
theorem NodeD.rep_open {n : NodeD} (h : NodeD.ty.rep I w n cs) : ∃ A1 c1 A2 c2, cs = [.int .i64 n.id, .slice A1 n.labels.length c1, .slice A2 n.props.length c2] ∧ n.labels.length ≤ c1 ∧ n.props.length ≤ c2 ∧
    Row 1 (Ty.str.rep I w) I w A1 n.labels ∧ Row 7 (PropD.ty.rep I w) I w A2 n.props := by
  obtain ⟨c0, c1, rfl, h0, ⟨c2, c3, rfl, h1, h2⟩⟩ := h
  obtain rfl := h0
  obtain ⟨A1, d1, rfl, k1, h1⟩ := h1
  obtain ⟨A2, d2, rfl, k2, h2⟩ := h2
  exact ⟨A1, d1, A2, d2, rfl, k1, k2, h1, h2⟩
theorem NodeD.rep_mk {n : NodeD} {A1 A2 : Option Addr} {c1 c2 : Nat} (k1 : n.labels.length ≤ c1) (k2 : n.props.length ≤ c2) (h1 : Row 1 (Ty.str.rep I w) I w A1 n.labels) (h2 : Row 7 (PropD.ty.rep I w) I w A2 n.props) :
    NodeD.ty.rep I w n [.int .i64 n.id, .slice A1 n.labels.length c1, .slice A2 n.props.length c2] :=
  ⟨_, _, rfl, rfl, _, _, rfl, ⟨A1, c1, rfl, k1, h1⟩, ⟨A2, c2, rfl, k2, h2⟩⟩
theorem RelD.rep_open {r : RelD} (h : RelD.ty.rep I w r cs) : ∃ A c, cs = [.int .i64 r.id, .int .i64 r.src, .int .i64 r.dst, .string r.type, .slice A r.props.length c] ∧ r.props.length ≤ c ∧ Row 7 (PropD.ty.rep I w) I w A r.props := by
  obtain ⟨c0, c1, rfl, h0, ⟨c2, c3, rfl, h1, ⟨c4, c5, rfl, h2, ⟨c6, c7, rfl, h3, h4⟩⟩⟩⟩ := h
  obtain rfl := h0; obtain rfl := h1; obtain rfl := h2; obtain rfl := h3
  obtain ⟨A, c, rfl, k, h4⟩ := h4
  exact ⟨A, c, rfl, k, h4⟩
theorem RelD.rep_mk {r : RelD} {A : Option Addr} {c : Nat} (k : r.props.length ≤ c) (h : Row 7 (PropD.ty.rep I w) I w A r.props) :
    RelD.ty.rep I w r [.int .i64 r.id, .int .i64 r.src, .int .i64 r.dst, .string r.type, .slice A r.props.length c] :=
  ⟨_, _, rfl, rfl, _, _, rfl, rfl, _, _, rfl, rfl, _, _, rfl, rfl, A, c, rfl, k, h⟩
theorem GraphD.rep_open {g : GraphD} (h : GraphD.ty.rep I w g cs) : ∃ A1 c1 A2 c2, cs = [.slice A1 g.nodes.length c1, .slice A2 g.rels.length c2, .int .i64 g.nextNode, .int .i64 g.nextRel] ∧ g.nodes.length ≤ c1 ∧ g.rels.length ≤ c2 ∧
    Row 3 (NodeD.ty.rep I w) I w A1 g.nodes ∧ Row 5 (RelD.ty.rep I w) I w A2 g.rels := by
  obtain ⟨c0, c1, rfl, h0, ⟨c2, c3, rfl, h1, ⟨c4, c5, rfl, h2, h3⟩⟩⟩ := h
  obtain ⟨A1, d1, rfl, k1, h0⟩ := h0
  obtain ⟨A2, d2, rfl, k2, h1⟩ := h1
  obtain rfl := h2; obtain rfl := h3
  exact ⟨A1, d1, A2, d2, rfl, k1, k2, h0, h1⟩
theorem GraphD.rep_mk {g : GraphD} {A1 A2 : Option Addr} {c1 c2 : Nat} (k1 : g.nodes.length ≤ c1) (k2 : g.rels.length ≤ c2) (h1 : Row 3 (NodeD.ty.rep I w) I w A1 g.nodes) (h2 : Row 5 (RelD.ty.rep I w) I w A2 g.rels) :
    GraphD.ty.rep I w g [.slice A1 g.nodes.length c1, .slice A2 g.rels.length c2, .int .i64 g.nextNode, .int .i64 g.nextRel] :=
  ⟨_, _, rfl, ⟨A1, c1, rfl, k1, h1⟩, _, _, rfl, ⟨A2, c2, rfl, k2, h2⟩, _, _, rfl, rfl, rfl⟩
theorem ChangeD.rep_open {c : ChangeD} (h : ChangeD.ty.rep I w c cs) : ∃ ds es, cs = .int .i64 c.kind :: .int .i64 c.id :: .int .i64 c.other :: (ds ++ es) ∧ NodeD.ty.rep I w c.node ds ∧ RelD.ty.rep I w c.rel es := by
  obtain ⟨c0, c1, rfl, h0, ⟨c2, c3, rfl, h1, ⟨c4, c5, rfl, h2, ⟨c6, c7, rfl, h3, h4⟩⟩⟩⟩ := h
  obtain rfl := h0; obtain rfl := h1; obtain rfl := h2
  exact ⟨c6, c7, rfl, h3, h4⟩
theorem ChangeD.rep_mk {c : ChangeD} {ds es : List Value} (h1 : NodeD.ty.rep I w c.node ds) (h2 : RelD.ty.rep I w c.rel es) : ChangeD.ty.rep I w c (.int .i64 c.kind :: .int .i64 c.id :: .int .i64 c.other :: (ds ++ es)) :=
  ⟨_, _, rfl, rfl, _, _, rfl, rfl, _, _, rfl, rfl, _, _, rfl, h1, h2⟩
theorem ChangeD.rep_cells {c : ChangeD} (h : ChangeD.ty.rep I w c cs) : ∃ A1 c1 A2 c2 A3 c3, cs = [.int .i64 c.kind, .int .i64 c.id, .int .i64 c.other, .int .i64 c.node.id, .slice A1 c.node.labels.length c1, .slice A2 c.node.props.length c2, .int .i64 c.rel.id, .int .i64 c.rel.src, .int .i64 c.rel.dst, .string c.rel.type, .slice A3 c.rel.props.length c3] ∧
    NodeD.ty.rep I w c.node [.int .i64 c.node.id, .slice A1 c.node.labels.length c1, .slice A2 c.node.props.length c2] ∧ RelD.ty.rep I w c.rel [.int .i64 c.rel.id, .int .i64 c.rel.src, .int .i64 c.rel.dst, .string c.rel.type, .slice A3 c.rel.props.length c3] := by
  obtain ⟨ds, es, rfl, h1, h2⟩ := ChangeD.rep_open h
  have h1' := h1
  have h2' := h2
  obtain ⟨A1, c1, A2, c2, rfl, _⟩ := NodeD.rep_open h1
  obtain ⟨A3, c3, rfl, _⟩ := RelD.rep_open h2
  exact ⟨A1, c1, A2, c2, A3, c3, rfl, h1', h2'⟩
theorem At.eleven {b off : Nat} {c0 c1 c2 c3 c4 c5 c6 c7 c8 c9 c10 : Value} (h : At w b off [c0, c1, c2, c3, c4, c5, c6, c7, c8, c9, c10]) : w.cell? ⟨b, off, none⟩ = some c0 ∧ w.cell? ⟨b, off + 1, none⟩ = some c1 ∧ w.cell? ⟨b, off + 2, none⟩ = some c2 ∧ w.cell? ⟨b, off + 3, none⟩ = some c3 ∧
    w.cell? ⟨b, off + 4, none⟩ = some c4 ∧ w.cell? ⟨b, off + 5, none⟩ = some c5 ∧ w.cell? ⟨b, off + 6, none⟩ = some c6 ∧ w.cell? ⟨b, off + 7, none⟩ = some c7 ∧ w.cell? ⟨b, off + 8, none⟩ = some c8 ∧ w.cell? ⟨b, off + 9, none⟩ = some c9 ∧ w.cell? ⟨b, off + 10, none⟩ = some c10 :=
  ⟨h 0 _ rfl, h 1 _ rfl, h 2 _ rfl, h 3 _ rfl, h 4 _ rfl, h 5 _ rfl, h 6 _ rfl, h 7 _ rfl, h 8 _ rfl, h 9 _ rfl, h 10 _ rfl⟩
end Go.Proofs.YtcmahpddjggcaaaGreatDoor
