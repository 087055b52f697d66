/- index.put: a node is put in the place of what it was: the plain part; a node that has no entry. -/
import Derived.Test.YtcmahpddjggcaaaGreatDoorKIx4
import Derived.Deep.Cut
import Derived.Deep.CutRange
namespace Go.Proofs.YtcmahpddjggcaaaGreatDoor
open Go Go.RowKit Go.Maps
set_option maxHeartbeats 4000000
set_option maxRecDepth 100000
/-- An entry put in at its place. -/
def IdxD.ins (x : IdxD) (e : EntD) : IdxD := { x with l := x.l.take (atFrom e x.l) ++ e :: x.l.drop (atFrom e x.l) }
/-- A node put in the place of what it was. -/
def IdxD.put (x : IdxD) (n : NodeD) : IdxD := match n.props.find? (fun p => decide (p.key = x.key)) with
  | some p => if n.labels.any (fun s => decide (s = x.label)) then (x.drop n.id).ins ⟨n.id, p.val⟩ else x.drop n.id
  | none => x.drop n.id
theorem idxOf_find {α : Type} {p : α → Bool} {l : List α} {a : α} (h : l.find? p = some a) : ∃ k, idxOf p l = (k : Nat) ∧ l[k]? = some a ∧ k < l.length := by
  obtain ⟨hp, xs, ys, rfl, has⟩ := List.find?_eq_some_iff_append.1 h
  refine ⟨xs.length, idxOf_hit (fun j y hj hy => ?_) (by simp) hp, by simp, by simp⟩
  rw [List.getElem?_append_left hj] at hy
  have := has y (List.mem_of_getElem? hy)
  simpa using this
theorem idxOf_nofind {α : Type} {p : α → Bool} {l : List α} (h : l.find? p = none) : idxOf p l = -1 := by
  refine idxOf_none (fun j y hj hy => ?_)
  have := List.find?_eq_none.1 h y (List.mem_of_getElem? hy)
  simpa using this
theorem IdxD.drop_names (x : IdxD) (id : Int) : (x.drop id).label = x.label ∧ (x.drop id).key = x.key := by
  unfold IdxD.drop
  split <;> exact ⟨rfl, rfl⟩
theorem IdxD.drop_gone {x : IdxD} {id : Int} (h : DropOk x id) : (x.drop id).l.find? (fun e => e.id == id) = none := by
  unfold IdxD.drop
  split
  · rename_i e he
    have := (h e he).2 id
    rw [if_pos rfl] at this
    exact this
  · assumption
theorem IdxD.drop_mem {x : IdxD} {id : Int} {e : EntD} (h : e ∈ (x.drop id).l) : e ∈ x.l := by
  unfold IdxD.drop at h
  split at h
  · rcases List.mem_append.1 h with h | h
    · exact List.mem_of_mem_take h
    · exact List.mem_of_mem_drop h
  · exact h
theorem IdxD.drop_len (x : IdxD) (id : Int) : (x.drop id).l.length ≤ x.l.length := by
  unfold IdxD.drop
  split
  · simp only [List.length_append, List.length_take, List.length_drop]; omega
  · exact Nat.le_refl _
theorem IdxOk.drop {x : IdxD} (h : IdxOk x) (id : Int) : IdxOk (x.drop id) := ⟨by have := x.drop_len id; have := h.1; omega, fun e he => h.2 e (IdxD.drop_mem he)⟩
theorem find_ins {l : List EntD} {e : EntD} (k : Nat) (h : l.find? (fun x => x.id == e.id) = none) (i : Int) : (l.take k ++ e :: l.drop k).find? (fun x => x.id == i) = if i = e.id then some e else l.find? (fun x => x.id == i) := by
  have hl : l.find? (fun x => x.id == i) = ((l.take k).find? (fun x => x.id == i)).or ((l.drop k).find? (fun x => x.id == i)) := by rw [← List.find?_append, List.take_append_drop]
  by_cases hi : i = e.id
  · subst hi
    rw [if_pos rfl, List.find?_append, List.find?_cons_of_pos (by simp)]
    have : (l.take k).find? (fun x => x.id == e.id) = none := List.find?_eq_none.2 fun x hx => List.find?_eq_none.1 h x (List.mem_of_mem_take hx)
    rw [this]; rfl
  · rw [if_neg hi, hl, List.find?_append, List.find?_cons_of_neg (by simp; exact fun e => hi e.symm)]
theorem IdxIn.facts {B N : Nat} {I : Nat → Prop} {w : World} {p mb : Nat} {sl : Value} {x : IdxD} (h : IdxIn B N I w p sl mb x) : p < w.heap.size ∧ mb < w.heap.size ∧ (∀ b, w.heap.size ≤ b → some b ≠ sl.ownBlock) := by
  obtain ⟨h1, h2, h3, h4, h5, h6, h7, D, h8, h9⟩ := h
  exact ⟨h1.lt, h8.lt, fun b hb e => by have := (h7.block e.symm).2; omega⟩
theorem IdxIn.mono {B N N' : Nat} {I : Nat → Prop} {w : World} {p mb : Nat} {sl : Value} {x : IdxD} (h : IdxIn B N I w p sl mb x) (hN : N ≤ N') : IdxIn B N' I w p sl mb x := by
  obtain ⟨h1, h2, h3, h4, h5, h6, h7, D, h8, h9⟩ := h
  exact ⟨h1, h2, h3, h4, h5, h6, h7, D, h8.mono hN, h9⟩
theorem PutQ.mono {B N N' : Nat} {I : Nat → Prop} {w w' : World} {p mb : Nat} {sl : Value} {x : IdxD} {e : Ending} (h : PutQ B N I w p sl mb x e w') (hN : N ≤ N') : PutQ B N' I w p sl mb x e w' := by
  obtain ⟨h1, h2, h3, sl', h4, h5⟩ := h
  exact ⟨h1, h2, h3, sl', h4.mono hN, h5⟩
/-- What put asks. -/
structure PutIn (B N : Nat) (I J : Nat → Prop) (w : World) (p : Nat) (sl : Value) (mb : Nat) (x : IdxD) (n : NodeD) (ncs : List Value) : Prop where
  idx : IdxIn B N I w p sl mb x
  rep : NodeD.ty.rep J w n ncs
  out : ∀ b, J b → b < B
  wf : (Lit.int .i64 n.id).wf = true
  size : n.size ≤ BIG
  dok : DropOk x n.id
  ok : IdxOk x
  tabs : Tabs w
  low : B ≤ w.heap.size
  tabsB : ∀ w', Below B w w' → Tabs w'
/-- put up to the question whether the node has an entry: dropped, sought. -/
structure PutMid (B N : Nat) (I J : Nat → Prop) (w w1 : World) (p : Nat) (sl sl1 : Value) (mb : Nat) (x : IdxD) (n : NodeD) (ncs : List Value) : Prop where
  idx : IdxIn B N I w1 p sl1 mb (x.drop n.id)
  rep : NodeD.ty.rep J w1 n ncs
  below : Below B w w1
  keep : IdxKeep w w1 p sl mb
  own : sl1.ownBlock = sl.ownBlock ∨ ∃ b, sl1.ownBlock = some b ∧ w.heap.size ≤ b
  b2 : Blk w1 w.heap.size [.pointer (some ⟨p, 0, none⟩)] 29
  b3 : Blk w1 (w.heap.size + 1) ncs 65
  ne2 : some w.heap.size ≠ sl1.ownBlock ∧ w.heap.size ≠ p ∧ w.heap.size ≠ mb
  ne3 : some (w.heap.size + 1) ≠ sl1.ownBlock ∧ w.heap.size + 1 ≠ p ∧ w.heap.size + 1 ≠ mb
  size : w.heap.size + 2 ≤ w1.heap.size
theorem PutMid.step {B N : Nat} {I J : Nat → Prop} {w w1 w2 : World} {p : Nat} {sl sl1 : Value} {mb : Nat} {x : IdxD} {n : NodeD} {ncs : List Value} (h : PutMid B N I J w w1 p sl sl1 mb x n ncs) (hb : Below w1.heap.size w1 w2) (hB : B ≤ w.heap.size) : PutMid B N I J w w2 p sl sl1 mb x n ncs where
  idx := h.idx.below hb
  rep := NodeD.ty.below hb h.rep
  below := below_call h.below (Nat.le_trans hB h.below.size) hb
  keep := fun b hb1 h1 h2 h3 => (hb.block b (by have := h.size; omega)).trans (h.keep b hb1 h1 h2 h3)
  own := h.own
  b2 := h.b2.below hb
  b3 := h.b3.below hb
  ne2 := h.ne2
  ne3 := h.ne3
  size := by have := h.size; have := hb.size; omega
end Go.Proofs.YtcmahpddjggcaaaGreatDoor
/- index.put: a node that has no entry. -/
namespace Go.Proofs.YtcmahpddjggcaaaGreatDoor
open Go Go.RowKit Go.Maps
set_option maxHeartbeats 4000000
set_option maxRecDepth 100000
theorem PutIn.mid {B N : Nat} {I J : Nat → Prop} {w w1 : World} {p : Nat} {sl : Value} {mb : Nat} {x : IdxD} {n : NodeD} {ncs : List Value} {e : Ending} (H : PutIn B N I J w p sl mb x n ncs)
    (hq : PutQ B N I ((w.alloc (.cells #[.pointer (some ⟨p, 0, none⟩)] 29)).alloc (.cells ncs.toArray 65)) p sl mb (x.drop n.id) e w1) : ∃ sl1, PutMid B N I J w w1 p sl sl1 mb x n ncs := by
  obtain ⟨_, hb, hk, sl1, hin, hown⟩ := hq
  obtain ⟨f1, f2, f3⟩ := H.idx.facts
  have hB0 : Below w.heap.size w ((w.alloc (.cells #[.pointer (some ⟨p, 0, none⟩)] 29)).alloc (.cells ncs.toArray 65)) := below_alloc' (below_alloc' (Below.refl _ _) (Nat.le_refl _) _) (Nat.le_refl _) _
  have hsz : ((w.alloc (.cells #[.pointer (some ⟨p, 0, none⟩)] 29)).alloc (.cells ncs.toArray 65)).heap.size = w.heap.size + 2 := by simp
  have hB : Below B w w1 := (hB0.mono H.low).trans hb
  rw [hsz] at hown
  have n2 : some w.heap.size ≠ sl1.ownBlock := by
    rcases hown with h | ⟨b, h, hb'⟩
    · rw [h]; exact f3 _ (Nat.le_refl _)
    · rw [h]; intro e; injection e with e; omega
  have n3 : some (w.heap.size + 1) ≠ sl1.ownBlock := by
    rcases hown with h | ⟨b, h, hb'⟩
    · rw [h]; exact f3 _ (by omega)
    · rw [h]; intro e; injection e with e; omega
  refine ⟨sl1, hin, NodeD.ty.belowB H.out hB H.rep, hB, fun b hb1 h1 h2 h3 => (hk b (by omega) h1 h2 h3).trans (hB0.block b hb1), ?_, ?_, ?_, ⟨n2, by omega, by omega⟩, ⟨n3, by omega, by omega⟩, ?_⟩
  · rcases hown with h | ⟨b, h, hb'⟩
    · exact .inl h
    · exact .inr ⟨b, h, by omega⟩
  · exact ((Blk.new w [.pointer (some ⟨p, 0, none⟩)] 29).alloc _).same (hk _ (by omega) (by omega) (by omega) (f3 _ (Nat.le_refl _)))
  · have := Blk.new (w.alloc (.cells #[.pointer (some ⟨p, 0, none⟩)] 29)) ncs 65
    rw [show (w.alloc (.cells #[.pointer (some ⟨p, 0, none⟩)] 29)).heap.size = w.heap.size + 1 by simp] at this
    exact this.same (hk _ (by omega) (by omega) (by omega) (f3 _ (by omega)))
  · have := hb.size; omega
theorem put_no (B N : Nat) (I J : Nat → Prop) (w : World) (p : Nat) (sl : Value) (mb : Nat) (x : IdxD) (n : NodeD) (ncs : List Value) (H : PutIn B N I J w p sl mb x n ncs)
    (z : Int) (hz : idxOf (fun q : PropD => decide (q.key = x.key)) n.props = z) (hno : z = -1 ∨ (0 ≤ z ∧ (n.labels.any fun s => decide (s = x.label)) = false)) :
    Calls Tryz.prog 90 #[.pointer (some ⟨p, 0, none⟩), .agg ncs.toArray] w (PutQ B N I w p sl mb (x.drop n.id)) := by
  have hsz := NodeD.le H.size
  have HH := Lib.hid H
  obtain ⟨A1, c1, A2, c2, rfl, k1, k2, hr1, hr2⟩ := NodeD.rep_open H.rep
  have hB0 : Below w.heap.size w ((w.alloc (.cells #[.pointer (some ⟨p, 0, none⟩)] 29)).alloc (.cells #[.int .i64 n.id, .slice A1 n.labels.length c1, .slice A2 n.props.length c2] 65)) := below_alloc' (below_alloc' (Below.refl _ _) (Nat.le_refl _) _) (Nat.le_refl _) _
  have HD := Lib.hid (drop_any x n.id B N I _ p sl mb (H.idx.below hB0) H.wf H.dok H.ok (H.tabs.below hB0) (Nat.le_trans H.low hB0.size) (fun w' hb => H.tabsB w' ((hB0.mono H.low).trans hb)))
  have HE := Lib.hid (enters_of Tryz.func188 (by kernel_rfl) rfl)
  have HN := Lib.hid hno
  have HZ := Lib.hid hz
  clear hno hz hB0 hr1 hr2
  go_enter Tryz.func90, Tryz.ntmps90
  go_wp2_with fail
  refine HD.out.mono ?_
  intro e w1 hq
  obtain rfl := hq.1
  obtain ⟨sl1, M⟩ := HH.out.mid hq
  have HM := Lib.hid M
  obtain ⟨y2, z2, l2⟩ := M.b2.facts
  obtain ⟨y3, z3, l3⟩ := M.b3.facts
  have hT1 := H.tabsB _ M.below
  obtain ⟨A1', c1', A2', c2', hcs, k1', k2', hr1, hr2⟩ := NodeD.rep_open M.rep
  obtain ⟨e1, e2, rfl, e3, e4, rfl⟩ : n.id = n.id ∧ A1 = A1' ∧ c1 = c1' ∧ n.id = n.id ∧ A2 = A2' ∧ c2 = c2' := by injection hcs with h1 h2; injection h2 with h2 h3; injection h3 with h3 h4; injection h2 with h5 h6 h7; injection h3 with h8 h9 h10; exact ⟨rfl, h5, h7, rfl, h8, h10⟩
  subst e2 e4
  obtain ⟨hp1, _⟩ := M.idx
  obtain ⟨hnl, hnk⟩ := x.drop_names n.id
  rw [hnl, hnk] at hp1
  obtain ⟨yp, zp, lp⟩ := hp1.facts
  have HI := Lib.hid (indexFunc_prop 188 #[.pointer (some ⟨w.heap.size, 0, none⟩)] HE.out (fun q => decide (q.key = x.key)) n.props _ A2 c2 w1 hr2 hsz.2.1
    (fun q hq W cs hb hr => put1_any q x.key _ W cs w.heap.size p hr ((hb.cell (p := ⟨w.heap.size, 0, none⟩) l2).trans (y2 0)) ((hb.cell (p := ⟨p, 1, none⟩) lp).trans (yp 1))))
  rw [HZ.out] at HI
  have HW := H.low
  have HJ := Lib.hid H.out
  clear hq HD M HH hr2 H
  go_wp2_with fail
  refine HI.out.mono ?_
  rintro e w2 ⟨rfl, hb2⟩
  have M2 := HM.out.step hb2 HW
  have HM2 := Lib.hid M2
  obtain ⟨y2', z2', l2'⟩ := M2.b2.facts
  obtain ⟨y3', z3', l3'⟩ := M2.b3.facts
  obtain ⟨hp2, _⟩ := M2.idx
  rw [hnl, hnk] at hp2
  obtain ⟨yp', zp', lp'⟩ := hp2.facts
  obtain ⟨A3, c3, A4, c4, hcs2, k3, k4, hr3, hr4⟩ := NodeD.rep_open M2.rep
  obtain ⟨e1, e2⟩ : A1 = A3 ∧ c1 = c3 := by injection hcs2 with h1 h2; injection h2 with h2 h3; injection h2 with h5 h6 h7; exact ⟨h5, h7⟩
  subst e1 e2
  have HL := Lib.hid (fun k => contains_str n.labels x.label J A1 c1 (w2.drewN k) (Row.imp (w := w2) (R := Ty.str.rep J w2) (I := J) (fun _ _ h => h) (fun _ hb hl => ⟨hb, hl⟩) (fun _ _ _ => rfl) hr3) hsz.1)
  have fin : ∀ k, PutQ B N I w p sl mb (x.drop n.id) (.returned (.tuple #[])) (w2.drewN k) := fun k =>
    let M3 := M2.step (below_drewN (Below.refl _ _) k) HW
    ⟨rfl, M3.below, M3.keep, sl1, M3.idx, M3.own⟩
  clear HM HI M2 hb2 hr3 hr4 hcs2 hr1 y2 z2 y3 z3 yp zp hcs
  rcases HN.out with rfl | ⟨h0, h1⟩
  · go_wp2_with fail
    go_quiet (fail)
    go_wp2_with fail
    refine bodyPost_ret (v := .tuple #[]) (by simp [results, Tryz.results90, go_sem]) rfl (fin _)
  · rw [h1] at HL
    clear h1 HN
    have hz0 : decide (z < 0) = false := by simpa using h0
    go_wp2_with fail
    go_quiet ((go_at_call 189; exact Calls.quiet_of_same (HL.out _)))
    go_wp2_with fail
    refine bodyPost_ret (v := .tuple #[]) (by simp [results, Tryz.results90, go_sem]) rfl (fin _)
end Go.Proofs.YtcmahpddjggcaaaGreatDoor
