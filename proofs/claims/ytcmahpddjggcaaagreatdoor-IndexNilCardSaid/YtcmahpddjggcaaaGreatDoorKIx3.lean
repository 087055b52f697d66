/- index: the index itself; There, Name. -/
import Derived.Test.YtcmahpddjggcaaaGreatDoorKIns
import Derived.Test.YtcmahpddjggcaaaGreatDoorKMapc
import Derived.Test.YtcmahpddjggcaaaGreatDoorKIxa
namespace Go.Proofs.YtcmahpddjggcaaaGreatDoor
open Go Go.RowKit
set_option maxHeartbeats 4000000
set_option maxRecDepth 100000
/-- An index: its label, its key, its entries. -/
structure IdxD where
  label : ByteArray
  key : ByteArray
  l : List EntD
/-- How a map's element reads: as it is. -/
def rawR (v : Value) : Option (DataW Value × List MemPlace) := some (.held v, [])
/-- The map holds just the entries. -/
def MapIs (D : DataW Value) (R : V → List Value → Prop) (l : List EntD) : Prop :=
  ∀ id : Int, (Lit.int .i64 id).wf = true → match l.find? (fun e => e.id == id) with
    | some e => Maps.has D (.int .i64 id) = true ∧ ∃ cs, (∀ z, D.atKey (.int .i64 id) z = .held (.agg cs.toArray)) ∧ R e.val cs
    | none => Maps.has D (.int .i64 id) = false
/-- An index lies at block p, with its row sl and its map mb, from block B on; its values lie elsewhere, where I says. -/
def IdxIn (B N : Nat) (I : Nat → Prop) (w : World) (p : Nat) (sl : Value) (mb : Nat) (x : IdxD) : Prop :=
  Blk w p [.string x.label, .string x.key, sl, .map (some mb)] 33 ∧ B ≤ p ∧ B ≤ mb ∧ p ≠ mb ∧ some p ≠ sl.ownBlock ∧ some mb ≠ sl.ownBlock ∧
  Own EntD.ty 148 B (fun b => I b ∧ b ≠ p ∧ b ≠ mb) w sl x.l ∧
  ∃ D, w.ownsMap Tryz.prog 2 rawR mb N D ∧ MapIs D (V.ty.rep (fun b => (I b ∧ b ≠ p ∧ b ≠ mb) ∧ some b ≠ sl.ownBlock) w) x.l
def IdxAt (B N : Nat) (I : Nat → Prop) (w : World) (p : Nat) (x : IdxD) : Prop := ∃ sl mb, IdxIn B N I w p sl mb x
/-- What hangs on no world but for its entries' sizes. -/
def IdxOk (x : IdxD) : Prop := x.l.length + 1 ≤ BIG ∧ ∀ e, e ∈ x.l → e.val.size + 1 ≤ BIG
theorem neq_mapnil (P : Program) (w : World) (t k e : TypeId) (p : Option Nat) (h : P.underlying t = some (.map k e)) : (binOp .neq t (.map p) (.map none)).run P w = .ok (.bool p.isSome) w := by
  simp only [binOp]
  simp [show Op.equal t (.map p) (.map none) = Op.equalIn (9999 + 1) t (.map p) (.map none) from rfl, equalIn_mapnil P w 9999 t k e p h]
theorem there_any (p : Nat) (a b sl : Value) (mb : Option Nat) (w : World) (h : Blk w p [a, b, sl, .map mb] 33) :
    Calls Tryz.prog 20 #[.pointer (some ⟨p, 0, none⟩)] w fun e w' => e = .returned (.bool mb.isSome) ∧ w' = w := by
  obtain ⟨y, z, l⟩ := h.facts
  have hq := fun w => neq_mapnil Tryz.prog w 31 _ _ mb under_miv
  go_enter Tryz.func20, Tryz.ntmps20
  go_wp2
  go_ret
  exact ⟨rfl, rfl⟩
theorem there_nil (w : World) : Calls Tryz.prog 20 #[.pointer none] w fun e w' => e = .returned (.bool false) ∧ w' = w := by
  go_enter Tryz.func20, Tryz.ntmps20
  go_wp2
  go_ret
  exact ⟨rfl, rfl⟩
/-- No index: a nil pointer, or a zero one. -/
def NoIdx (w : World) (v : Value) : Prop := v = .pointer none ∨ ∃ p, v = .pointer (some ⟨p, 0, none⟩) ∧ Blk w p [.string ⟨#[]⟩, .string ⟨#[]⟩, .slice none 0 0, .map none] 33
theorem NoIdx.below {w w' : World} {v : Value} (h : NoIdx w v) (hb : Below w.heap.size w w') : NoIdx w' v := by
  rcases h with h | ⟨p, h, hp⟩
  · exact .inl h
  · exact .inr ⟨p, h, hp.below hb⟩
theorem there_no (w : World) (v : Value) (h : NoIdx w v) : Calls Tryz.prog 20 #[v] w fun e w' => e = .returned (.bool false) ∧ w' = w := by
  rcases h with rfl | ⟨p, rfl, hp⟩
  · exact there_nil w
  · exact there_any p _ _ _ none w hp
theorem name_no (w : World) (v : Value) (h : NoIdx w v) : Calls Tryz.prog 17 #[v] w fun e w' => e = .returned (.tuple #[.string ⟨#[]⟩, .string ⟨#[]⟩]) ∧ w' = w := by
  have HC := Lib.hid (there_no w v h)
  clear h
  go_enter Tryz.func17, Tryz.ntmps17
  go_wp2_with fail
  refine HC.out.mono ?_
  rintro e w1 ⟨rfl, rfl⟩
  go_wp2_with fail
  refine bodyPost_ret (v := .tuple #[.string ⟨#[]⟩, .string ⟨#[]⟩]) (by simp [results, Tryz.results17, go_sem]) rfl ⟨rfl, rfl⟩
theorem len_no (w : World) (v : Value) (h : NoIdx w v) : Calls Tryz.prog 18 #[v] w fun e w' => e = .returned (.tuple #[.int .i64 0, .int .i64 0]) ∧ w' = w := by
  have HC := Lib.hid (there_no w v h)
  clear h
  go_enter Tryz.func18, Tryz.ntmps18
  go_wp2_with fail
  refine HC.out.mono ?_
  rintro e w1 ⟨rfl, rfl⟩
  go_wp2_with fail
  refine bodyPost_ret (v := .tuple #[.int .i64 0, .int .i64 0]) (by simp [results, Tryz.results18, go_sem]) rfl ⟨rfl, rfl⟩
theorem copyix_no (w : World) (v : Value) (h : NoIdx w v) : Calls Tryz.prog 26 #[v] w fun e w' => e = .returned (.pointer none) ∧ w' = w := by
  have HC := Lib.hid (there_no w v h)
  clear h
  go_enter Tryz.func26, Tryz.ntmps26
  go_wp2_with fail
  refine HC.out.mono ?_
  rintro e w1 ⟨rfl, rfl⟩
  go_wp2_with fail
  go_ret
  exact ⟨rfl, rfl⟩
theorem all_no (w : World) (v f : Value) (h : NoIdx w v) : Calls Tryz.prog 83 #[v, f] w fun e w' => e = .returned (.slice none 0 0) ∧ w' = w := by
  have HC := Lib.hid (there_no w v h)
  clear h
  go_enter Tryz.func83, Tryz.ntmps83
  go_wp2_with fail
  refine HC.out.mono ?_
  rintro e w1 ⟨rfl, rfl⟩
  go_wp2_with fail
  go_ret
  exact ⟨rfl, rfl⟩
theorem change_no (w : World) (v l : Value) (h : NoIdx w v) : Calls Tryz.prog 25 #[v, l] w fun e w' => e = .returned (.int .i64 1) ∧ w' = w := by
  have HC := Lib.hid (there_no w v h)
  clear h
  go_enter Tryz.func25, Tryz.ntmps25
  go_wp2_with fail
  refine HC.out.mono ?_
  rintro e w1 ⟨rfl, rfl⟩
  go_wp2_with fail
  go_ret
  exact ⟨rfl, rfl⟩
end Go.Proofs.YtcmahpddjggcaaaGreatDoor
/- index: what one that is not there answers: Seek, Below, Above, Value, Entries. -/
namespace Go.Proofs.YtcmahpddjggcaaaGreatDoor
open Go Go.RowKit
set_option maxHeartbeats 4000000
set_option maxRecDepth 100000
theorem seek_no (w : World) (v : Value) (x : V) (I : Nat → Prop) (cs : List Value) (h : NoIdx w v) (hx : V.ty.rep I w x cs) : Calls Tryz.prog 21 #[v, .agg cs.toArray] w fun e w' => e = .returned (.slice none 0 0) ∧ Below w.heap.size w w' := by
  obtain ⟨A1, c1, A2, c2, rfl, _⟩ := V.rep_open hx
  have hB0 := below_alloc' (Below.refl w.heap.size w) (Nat.le_refl _) (.cells #[.int .i64 x.kind, .bool x.bool, .int .i64 x.int, .string x.text, .slice A1 x.keys.length c1, .slice A2 x.list.length c2] 26)
  have HC := Lib.hid (there_no _ v (h.below hB0))
  clear h hx
  go_enter Tryz.func21, Tryz.ntmps21
  go_wp2_with fail
  refine HC.out.mono ?_
  rintro e w1 ⟨rfl, rfl⟩
  go_wp2_with fail
  go_ret
  exact ⟨rfl, hB0⟩
theorem below_no (w : World) (v : Value) (x : V) (or : Bool) (I : Nat → Prop) (cs : List Value) (h : NoIdx w v) (hx : V.ty.rep I w x cs) : Calls Tryz.prog 22 #[v, .agg cs.toArray, .bool or] w fun e w' => e = .returned (.slice none 0 0) ∧ Below w.heap.size w w' := by
  obtain ⟨A1, c1, A2, c2, rfl, _⟩ := V.rep_open hx
  have hB0 := below_alloc' (below_alloc' (Below.refl w.heap.size w) (Nat.le_refl _) (.cells #[.int .i64 x.kind, .bool x.bool, .int .i64 x.int, .string x.text, .slice A1 x.keys.length c1, .slice A2 x.list.length c2] 26)) (Nat.le_refl _) (.cells #[.bool or] 4)
  have HC := Lib.hid (fun f => all_no _ v f (h.below hB0))
  clear h hx
  go_enter Tryz.func22, Tryz.ntmps22
  go_wp2_with fail
  refine (HC.out _).mono ?_
  rintro e w1 ⟨rfl, rfl⟩
  go_wp2_with fail
  go_ret
  exact ⟨rfl, hB0⟩
theorem above_no (w : World) (v : Value) (x : V) (or : Bool) (I : Nat → Prop) (cs : List Value) (h : NoIdx w v) (hx : V.ty.rep I w x cs) : Calls Tryz.prog 23 #[v, .agg cs.toArray, .bool or] w fun e w' => e = .returned (.slice none 0 0) ∧ Below w.heap.size w w' := by
  obtain ⟨A1, c1, A2, c2, rfl, _⟩ := V.rep_open hx
  have hB0 := below_alloc' (below_alloc' (Below.refl w.heap.size w) (Nat.le_refl _) (.cells #[.int .i64 x.kind, .bool x.bool, .int .i64 x.int, .string x.text, .slice A1 x.keys.length c1, .slice A2 x.list.length c2] 26)) (Nat.le_refl _) (.cells #[.bool or] 4)
  have HC := Lib.hid (fun f => all_no _ v f (h.below hB0))
  clear h hx
  go_enter Tryz.func23, Tryz.ntmps23
  go_wp2_with fail
  refine (HC.out _).mono ?_
  rintro e w1 ⟨rfl, rfl⟩
  go_wp2_with fail
  go_ret
  exact ⟨rfl, hB0⟩
theorem value_no (w : World) (v : Value) (id : Int) (h : NoIdx w v) : Calls Tryz.prog 19 #[v, .int .i64 id] w fun e w' => e = .returned (.tuple #[.agg #[.int .i64 0, .bool false, .int .i64 0, .string ⟨#[]⟩, .slice none 0 0, .slice none 0 0], .bool false]) ∧ Below w.heap.size w w' := by
  have hB0 := below_alloc' (Below.refl w.heap.size w) (Nat.le_refl _) (.cells #[.int .i64 0, .bool false, .int .i64 0, .string ⟨#[]⟩, .slice none 0 0, .slice none 0 0] 26)
  have HC := Lib.hid (there_no _ v (h.below hB0))
  clear h
  go_enter Tryz.func19, Tryz.ntmps19
  go_wp2_with fail
  refine HC.out.mono ?_
  rintro e w1 ⟨rfl, rfl⟩
  go_wp2_with fail
  obtain ⟨y, _⟩ := (Blk.new w [.int .i64 0, .bool false, .int .i64 0, .string ⟨#[]⟩, .slice none 0 0, .slice none 0 0] 26).rd
  refine bodyPost_ret (v := .tuple #[.agg #[.int .i64 0, .bool false, .int .i64 0, .string ⟨#[]⟩, .slice none 0 0, .slice none 0 0], .bool false]) (by simp [results, Tryz.results19, go_sem, y]) rfl ⟨rfl, hB0⟩
theorem entries_no (w : World) (v : Value) (h : NoIdx w v) : Calls Tryz.prog 28 #[v] w fun e w' => e = .returned (.func (.func 95) #[] #[.pointer (some ⟨w.heap.size, 0, none⟩)]) ∧ w' = w.alloc (.cells #[.slice none 0 0] 30) := by
  have hB0 := below_alloc' (Below.refl w.heap.size w) (Nat.le_refl _) (.cells #[.slice none 0 0] 30)
  have HC := Lib.hid (there_no _ v (h.below hB0))
  clear h
  go_enter Tryz.func28, Tryz.ntmps28
  go_wp2_with fail
  refine HC.out.mono ?_
  rintro e w1 ⟨rfl, rfl⟩
  go_wp2_with fail
  go_ret
  exact ⟨rfl, rfl⟩
end Go.Proofs.YtcmahpddjggcaaaGreatDoor
/- index: how one that lies there stays. -/
namespace Go.Proofs.YtcmahpddjggcaaaGreatDoor
open Go Go.RowKit
set_option maxHeartbeats 4000000
set_option maxRecDepth 100000
theorem MapIs.imp {D : DataW Value} {R R' : V → List Value → Prop} {l : List EntD} (hR : ∀ v cs, R v cs → R' v cs) (h : MapIs D R l) : MapIs D R' l := by
  intro id hid
  have := h id hid
  split at this
  · rename_i e he
    obtain ⟨h1, cs, h2, h3⟩ := this
    exact ⟨h1, cs, h2, hR _ _ h3⟩
  · exact this
theorem IdxIn.grown {B N : Nat} {I : Nat → Prop} {w w' : World} {p mb : Nat} {sl : Value} {x : IdxD} {row : Option Nat} (h : IdxIn B N I w p sl mb x) (hg : w.grownBy w' row) (hp : some p ≠ row) (hm : some mb ≠ row) (hs : sl.ownBlock = none ∨ sl.ownBlock ≠ row) (hI : ∀ b, I b → some b ≠ row) : IdxIn B N I w' p sl mb x := by
  obtain ⟨h1, h2, h3, h4, h5, h6, h7, D, h8, h9⟩ := h
  exact ⟨h1.grown hg hp, h2, h3, h4, h5, h6, h7.grown (fun b hb => hI b hb.1) hs hg, D, h8.kept hg hm, h9.imp fun v cs hr => V.ty.grown (fun b hb => hI b hb.1.1) hg hr⟩
theorem IdxIn.below {B N : Nat} {I : Nat → Prop} {w w' : World} {p mb : Nat} {sl : Value} {x : IdxD} (h : IdxIn B N I w p sl mb x) (hb : Below w.heap.size w w') : IdxIn B N I w' p sl mb x :=
  h.grown (row := none) (grownBy_of_below hb) (by simp) (by simp) (by cases sl.ownBlock <;> simp) (fun _ _ => by simp)
theorem IdxAt.below {B N : Nat} {I : Nat → Prop} {w w' : World} {p : Nat} {x : IdxD} (h : IdxAt B N I w p x) (hb : Below w.heap.size w w') : IdxAt B N I w' p x := by
  obtain ⟨sl, mb, h⟩ := h
  exact ⟨sl, mb, h.below hb⟩
end Go.Proofs.YtcmahpddjggcaaaGreatDoor
