/- index.drop: a node is taken out. -/
import Derived.Test.YtcmahpddjggcaaaGreatDoorKIx3
import Derived.Laws.EntriesVeiled
namespace Go.Proofs.YtcmahpddjggcaaaGreatDoor
open Go Go.RowKit Go.Maps
set_option maxHeartbeats 4000000
set_option maxRecDepth 100000
def atFrom (e : EntD) (l : List EntD) : Nat := srch (fun o => decide (0 ≤ EntD.before o e)) l
/-- A node's entry taken out. -/
def IdxD.drop (x : IdxD) (id : Int) : IdxD := match x.l.find? (fun e => e.id == id) with
  | some e => { x with l := x.l.take (atFrom e x.l) ++ x.l.drop (atFrom e x.l + 1) }
  | none => x
theorem under_i64 : Tryz.prog.underlying 2 = some (.int .i64) := by kernel_rfl
theorem under_valz (w : World) : (zeroValue 26).run Tryz.prog w = .ok (.agg #[.int .i64 0, .bool false, .int .i64 0, .string ⟨#[]⟩, .slice none 0 0, .slice none 0 0]) w := by kernel_rfl
/-- What drop asks: the entry is found where it stands; what remains is what the map then holds. -/
def DropOk (x : IdxD) (id : Int) : Prop := ∀ e, x.l.find? (fun e => e.id == id) = some e → atFrom e x.l < x.l.length ∧ ∀ i, (x.l.take (atFrom e x.l) ++ x.l.drop (atFrom e x.l + 1)).find? (fun e => e.id == i) = if i = id then none else x.l.find? (fun e => e.id == i)
theorem drop_none (x : IdxD) (id : Int) (B N : Nat) (I : Nat → Prop) (w : World) (p : Nat) (sl : Value) (mb : Nat) (h : IdxIn B N I w p sl mb x) (hid : (Lit.int .i64 id).wf = true) (hf : x.l.find? (fun e => e.id == id) = none) :
    Calls Tryz.prog 91 #[.pointer (some ⟨p, 0, none⟩), .int .i64 id] w fun e w' => e = .returned (.tuple #[]) ∧ Below w.heap.size w w' := by
  obtain ⟨hp, _, _, _, _, _, _, D, hmap, hM⟩ := h
  have hh := hM id hid
  rw [hf] at hh
  obtain ⟨v, ps, hrun, hv⟩ := hmap.look_ok (int_keyed under_i64) under_miv (under_valz w) (zd := .held (.agg #[.int .i64 0, .bool false, .int .i64 0, .string ⟨#[]⟩, .slice none 0 0, .slice none 0 0])) rfl (keyOf_int_mk under_i64 hid)
  rw [hh] at hrun
  have hv2 : v = .agg #[.int .i64 0, .bool false, .int .i64 0, .string ⟨#[]⟩, .slice none 0 0, .slice none 0 0] := by
    rw [atKey_of_not_has hh] at hv
    simp only [rawR, Option.some.injEq, Prod.mk.injEq, DataW.held.injEq] at hv
    exact hv.1
  subst hv2
  clear hv
  obtain ⟨y, z, l⟩ := hp.facts
  clear hp hmap hM hh
  go_enter Tryz.func91, Tryz.ntmps91
  go_wp2_with fail
  refine bodyPost_ret (v := .tuple #[]) (by simp [results, Tryz.results91, go_sem]) rfl ⟨rfl, below_alloc' (Below.refl _ _) (Nat.le_refl _) _⟩
/-- What a call leaves as it was: all but the index's own three blocks. -/
def IdxKeep (w w' : World) (p : Nat) (sl : Value) (mb : Nat) : Prop := ∀ b, b < w.heap.size → b ≠ p → b ≠ mb → some b ≠ sl.ownBlock → w'.heap[b]? = w.heap[b]?
/-- What drop and put promise: the index, with the same map; the world else as it was. -/
def PutQ (B N : Nat) (I : Nat → Prop) (w : World) (p : Nat) (sl : Value) (mb : Nat) (x : IdxD) (e : Ending) (w' : World) : Prop :=
  e = .returned (.tuple #[]) ∧ Below B w w' ∧ IdxKeep w w' p sl mb ∧ ∃ sl', IdxIn B N I w' p sl' mb x ∧ (sl'.ownBlock = sl.ownBlock ∨ ∃ b, sl'.ownBlock = some b ∧ w.heap.size ≤ b)
theorem IdxKeep.of_below {w w' : World} {p mb : Nat} {sl : Value} (h : Below w.heap.size w w') : IdxKeep w w' p sl mb := fun b hb _ _ _ => h.block b hb
theorem drop_some (x : IdxD) (id : Int) (en : EntD) (B N : Nat) (I : Nat → Prop) (w : World) (p : Nat) (sl : Value) (mb : Nat) (h : IdxIn B N I w p sl mb x) (hid : (Lit.int .i64 id).wf = true) (hf : x.l.find? (fun e => e.id == id) = some en) (hok : DropOk x id) (hxo : IdxOk x) (_hT : Tabs w) (hBw : B ≤ w.heap.size) (hTB : ∀ w', Below B w w' → Tabs w') :
    Calls Tryz.prog 91 #[.pointer (some ⟨p, 0, none⟩), .int .i64 id] w (PutQ B N I w p sl mb (x.drop id)) := by
  obtain ⟨hp, hBp, hBm, hpm, hps, hms, hO, D, hmap, hM⟩ := h
  have hh := hM id hid
  rw [hf] at hh
  obtain ⟨hhas, cs, hat, hrv⟩ := hh
  have hide : en.id = id := by have := List.find?_some hf; simpa using this
  subst hide
  have hen : en ∈ x.l := List.mem_of_find?_eq_some hf
  obtain ⟨v, ps, hrun, hv⟩ := hmap.look_ok (int_keyed under_i64) under_miv (under_valz w) (zd := .held (.agg #[.int .i64 0, .bool false, .int .i64 0, .string ⟨#[]⟩, .slice none 0 0, .slice none 0 0])) rfl (keyOf_int_mk under_i64 hid)
  have hv2 : v = .agg cs.toArray := by
    rw [hat] at hv
    simp only [rawR, Option.some.injEq, Prod.mk.injEq, DataW.held.injEq] at hv
    exact hv.1
  subst hv2
  rw [hhas] at hrun
  obtain ⟨A1, c1, A2, c2, rfl, _⟩ := V.rep_open hrv
  obtain ⟨y, z, l⟩ := hp.facts
  obtain ⟨W1, hdel, hmap1, hturn⟩ := (hmap.alloc (.cells #[.int .i64 en.val.kind, .bool en.val.bool, .int .i64 en.val.int, .string en.val.text, .slice A1 en.val.keys.length c1, .slice A2 en.val.list.length c2] 26)).drop (int_keyed under_i64) under_miv (keyOf_int_mk under_i64 hid) 0
  obtain ⟨y1, z1, l1⟩ := ((hp.alloc (.cells #[.int .i64 en.val.kind, .bool en.val.bool, .int .i64 en.val.int, .string en.val.text, .slice A1 en.val.keys.length c1, .slice A2 en.val.list.length c2] 26)).grown hturn.grown (by simp; exact hpm)).facts
  have hml := hmap.lt
  have bx := (Blk.new w [.int .i64 en.val.kind, .bool en.val.bool, .int .i64 en.val.int, .string en.val.text, .slice A1 en.val.keys.length c1, .slice A2 en.val.list.length c2] 26).grown hturn.grown (by simp; omega)
  obtain ⟨y2, z2, l2⟩ := bx.facts
  have hBoxB := below_alloc' (Below.refl w.heap.size w) (Nat.le_refl _) (.cells #[.int .i64 en.val.kind, .bool en.val.bool, .int .i64 en.val.int, .string en.val.text, .slice A1 en.val.keys.length c1, .slice A2 en.val.list.length c2] 26)
  have hO1 := ((hO.below hBoxB).grown (fun b hb e => hb.2.2 (by injection e)) (.inr (fun e => hms e.symm)) hturn.grown).below (below_alloc' (Below.refl W1.heap.size W1) (Nat.le_refl _) (.cells #[.int .i64 en.id, .int .i64 en.val.kind, .bool en.val.bool, .int .i64 en.val.int, .string en.val.text, .slice A1 en.val.keys.length c1, .slice A2 en.val.list.length c2] 148))
  have hrv1 := V.ty.below (below_alloc' (Below.refl W1.heap.size W1) (Nat.le_refl _) (.cells #[.int .i64 en.id, .int .i64 en.val.kind, .bool en.val.bool, .int .i64 en.val.int, .string en.val.text, .slice A1 en.val.keys.length c1, .slice A2 en.val.list.length c2] 148)) (V.ty.grown (fun b hb e => hb.1.2.2 (by injection e)) hturn.grown (V.ty.below hBoxB hrv))
  have be := Blk.new W1 [.int .i64 en.id, .int .i64 en.val.kind, .bool en.val.bool, .int .i64 en.val.int, .string en.val.text, .slice A1 en.val.keys.length c1, .slice A2 en.val.list.length c2] 148
  have hB2 : Below B w (W1.alloc (.cells #[.int .i64 en.id, .int .i64 en.val.kind, .bool en.val.bool, .int .i64 en.val.int, .string en.val.text, .slice A1 en.val.keys.length c1, .slice A2 en.val.list.length c2] 148)) := ((hBoxB.mono hBw).grown hturn.grown (Nat.le_trans hBw hBoxB.size) (fun k e => by injection e with e; omega)).alloc (Nat.le_trans hBw (Nat.le_trans hBoxB.size hturn.grown.size)) _
  have HM := Lib.hid (hM.imp (fun v cs hr => V.ty.below (below_alloc' (Below.refl W1.heap.size W1) (Nat.le_refl _) (.cells #[.int .i64 en.id, .int .i64 en.val.kind, .bool en.val.bool, .int .i64 en.val.int, .string en.val.text, .slice A1 en.val.keys.length c1, .slice A2 en.val.list.length c2] 148)) (V.ty.grown (fun b hb e => hb.1.2.2 (by injection e)) hturn.grown (V.ty.below hBoxB hr))))
  have HMAP := Lib.hid (hmap1.alloc (.cells #[.int .i64 en.id, .int .i64 en.val.kind, .bool en.val.bool, .int .i64 en.val.int, .string en.val.text, .slice A1 en.val.keys.length c1, .slice A2 en.val.list.length c2] 148))
  clear hmap hM hat
  go_enter Tryz.func91, Tryz.ntmps91
  go_wp2_with fail
  have hp2 := ((hp.alloc (.cells #[.int .i64 en.val.kind, .bool en.val.bool, .int .i64 en.val.int, .string en.val.text, .slice A1 en.val.keys.length c1, .slice A2 en.val.list.length c2] 26)).grown hturn.grown (by simp; exact hpm)).alloc (.cells #[.int .i64 en.id, .int .i64 en.val.kind, .bool en.val.bool, .int .i64 en.val.int, .string en.val.text, .slice A1 en.val.keys.length c1, .slice A2 en.val.list.length c2] 148)
  have HK := Lib.hid (show ∀ b, b < w.heap.size → b ≠ mb → (W1.alloc (.cells #[.int .i64 en.id, .int .i64 en.val.kind, .bool en.val.bool, .int .i64 en.val.int, .string en.val.text, .slice A1 en.val.keys.length c1, .slice A2 en.val.list.length c2] 148)).heap[b]? = w.heap[b]? ∧ b < (W1.alloc (.cells #[.int .i64 en.id, .int .i64 en.val.kind, .bool en.val.bool, .int .i64 en.val.int, .string en.val.text, .slice A1 en.val.keys.length c1, .slice A2 en.val.list.length c2] 148)).heap.size from fun b hb h2 => by
    have s1 := hBoxB.size
    have s2 := hturn.grown.size
    exact ⟨(heap_alloc_old W1 _ (by omega)).trans ((hturn.grown.block b (by omega) (fun e => h2 (by injection e))).trans (hBoxB.block b hb)), by simp; omega⟩)
  generalize W1.alloc (.cells #[.int .i64 en.id, .int .i64 en.val.kind, .bool en.val.bool, .int .i64 en.val.int, .string en.val.text, .slice A1 en.val.keys.length c1, .slice A2 en.val.list.length c2] 148) = W2 at *
  obtain ⟨As, cs, hsl, hcs, hrow⟩ := hO1.slice
  obtain rfl : sl = .slice As x.l.length cs := by injection hsl
  have hS := search_ent 193 #[.pointer (some ⟨W1.heap.size, 0, none⟩)] (enters_of Tryz.func193 (by kernel_rfl) rfl) (fun o => decide (0 ≤ EntD.before o en)) x.l _ As cs W2 hrow (by have := hxo.1; omega)
    (fun o ho W' ocs hB' hr' => drop1_any o en _ _ W' ocs _ W1.heap.size hr' (EntD.ty.below hB' (EntD.rep_mk hrv1)) (be.below hB') (hxo.2 o ho) (hxo.2 en hen) (hTB _ (hB2.trans (hB'.mono hB2.size |>.mono (by have := hB2.size; omega)))))
  refine hS.mono ?_
  rintro e w3 ⟨rfl, hb3⟩
  have hok2 := hok en hf
  obtain ⟨k, hk⟩ : ∃ k, Hid (atFrom en x.l = k) := ⟨_, Lib.hid rfl⟩
  have hk' := hk.out
  unfold atFrom at hk'
  rw [hk']
  rw [hk.out] at hok2
  have hO3 := hO1.below hb3
  have hp3 := hp2.below hb3
  obtain ⟨y4, z4, l4⟩ := hp3.facts
  have hkI : (k : Int) ≤ 1073741824 := by have := hxo.1; have := hok2.1; rw [BIG_eq] at *; omega
  have HD := Lib.hid (delete_ent _ x.l B _ w3 k hok2.1 (by have := hxo.1; omega) hO3)
  have HOK := Lib.hid hok2
  have HF := Lib.hid hf
  have HKK := Lib.hid hk'
  clear hok2 hf hk' hok hS
  go_wp2_with fail
  refine HD.out.mono ?_
  rintro e w4 ⟨v1, rfl, hO4, hg4, hown4⟩
  have hp4 := hp3.grown hg4 hps
  obtain ⟨y5, z5, l5⟩ := hp4.facts
  have HO4 := Lib.hid hO4
  have HG4 := Lib.hid hg4
  obtain ⟨A4, c4, hv4⟩ := hO4.form
  obtain rfl := hv4
  clear HD hg4 hO4
  go_wp2_with fail
  have hlen : min k x.l.length + (x.l.length - (k + 1)) = (x.l.take k ++ x.l.drop (k + 1)).length := by rw [List.length_append, List.length_take, List.length_drop]
  rw [hlen]
  have hxd : x.drop en.id = { x with l := x.l.take k ++ x.l.drop (k + 1) } := by unfold IdxD.drop; rw [HF.out]; simp only [hk.out]
  have hO5 := HO4.out
  have hmap4 := (((hmap1.alloc (.cells #[.int .i64 en.id, .int .i64 en.val.kind, .bool en.val.bool, .int .i64 en.val.int, .string en.val.text, .slice A1 en.val.keys.length c1, .slice A2 en.val.list.length c2] 148)))).mono (Nat.le_refl N)
  have hset : w4.grownBy (w4.setCell ⟨p, 2, none⟩ (.slice A4 (x.l.take k ++ x.l.drop (k + 1)).length c4)) (some p) := ⟨rfl, rfl, rfl, by rw [size_setCell]; exact Nat.le_refl _, fun j _ hj => Below.heap_setCell w4 ⟨p, 2, none⟩ _ j (fun e => hj (by rw [e]))⟩
  have fin : IdxIn B N I (w4.setCell ⟨p, 2, none⟩ (.slice A4 (x.l.take k ++ x.l.drop (k + 1)).length c4)) p (.slice A4 (x.l.take k ++ x.l.drop (k + 1)).length c4) mb (x.drop en.id) := by
    rw [hxd]
    refine ⟨hp4.set 2 _, hBp, hBm, hpm, ?_, ?_, ?_, D.del (.int .i64 en.id), ?_, ?_⟩
    · exact fun e => hps (e.trans hown4)
    · exact fun e => hms (e.trans hown4)
    · exact HO4.out.grown (row := some p) (fun b hb e => hb.2.1 (by injection e)) (.inr (fun e => hps (e.symm.trans hown4))) hset
    · exact (((HMAP.out.kept (grownBy_of_below hb3) (by simp)).kept HG4.out hms)).kept hset (fun e => hpm (by injection e with e; exact e.symm))
    · intro i hi
      have h2 := HOK.out.2 i
      have h3 := HM.out i hi
      rw [h2]
      by_cases hie : i = en.id
      · rw [if_pos hie, hie]
        exact has_del_same
      · rw [if_neg hie]
        have hne : (Lit.int .i64 i) ≠ Lit.int .i64 en.id := fun e => hie (by injection e)
        split at h3
        · rename_i e he
          obtain ⟨q1, qcs, q2, q3⟩ := h3
          refine ⟨(has_del_other hne).trans q1, qcs, fun z => (atKey_del_other hne z).trans (q2 z), ?_⟩
          have r1 := V.ty.grown (row := some p) (fun b hb e => hb.1.2.1 (by injection e)) hset (V.ty.grown (fun b hb => hb.2) HG4.out (V.ty.below hb3 q3))
          exact V.ty.mono (fun b hb => ⟨hb.1, fun e => hb.2 (e.trans hown4)⟩) r1

        · rename_i he
          exact (has_del_other hne).trans h3
  have hB3 := below_call hB2 (Nat.le_trans hBw hB2.size) hb3
  have keep : IdxKeep w (w4.setCell ⟨p, 2, none⟩ (.slice A4 (x.l.take k ++ x.l.drop (k + 1)).length c4)) p (.slice As x.l.length cs) mb := fun b hb h1 h2 h3 => by
    obtain ⟨k1, k2⟩ := HK.out b hb h2
    have s4 := hb3.size
    exact (Below.heap_setCell w4 ⟨p, 2, none⟩ _ b h1).trans ((HG4.out.block b (by omega) h3).trans ((hb3.block b k2).trans k1))
  refine bodyPost_end (v := .tuple #[]) (by simp [results, Tryz.results91, go_sem]) rfl ⟨rfl, (hB3.grown HG4.out (Nat.le_trans hBw hB3.size) (fun j e => (hO3.block e).1)).setCell (p := ⟨p, 2, none⟩) hBp _, keep, _, fin, .inl hown4⟩
/-- drop, whatever stands there. -/
theorem drop_any (x : IdxD) (id : Int) (B N : Nat) (I : Nat → Prop) (w : World) (p : Nat) (sl : Value) (mb : Nat) (h : IdxIn B N I w p sl mb x) (hid : (Lit.int .i64 id).wf = true) (hok : DropOk x id) (hxo : IdxOk x) (hT : Tabs w) (hBw : B ≤ w.heap.size) (hTB : ∀ w', Below B w w' → Tabs w') :
    Calls Tryz.prog 91 #[.pointer (some ⟨p, 0, none⟩), .int .i64 id] w (PutQ B N I w p sl mb (x.drop id)) := by
  cases hf : x.l.find? (fun e => e.id == id) with
  | some en => exact drop_some x id en B N I w p sl mb h hid hf hok hxo hT hBw hTB
  | none =>
    have hxd : x.drop id = x := by unfold IdxD.drop; rw [hf]
    rw [hxd]
    refine (drop_none x id B N I w p sl mb h hid hf).mono ?_
    rintro e w' ⟨rfl, hb⟩
    exact ⟨rfl, hb.mono hBw, IdxKeep.of_below hb, sl, h.below hb, .inl rfl⟩
end Go.Proofs.YtcmahpddjggcaaaGreatDoor
