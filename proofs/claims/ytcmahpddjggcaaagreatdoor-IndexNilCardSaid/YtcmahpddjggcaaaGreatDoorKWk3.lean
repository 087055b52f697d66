/- latticelaw12: the graph of works(), its index, what is asked of it: reckoned. -/
import Derived.Test.YtcmahpddjggcaaaGreatDoorKIx15
namespace Go.Proofs.YtcmahpddjggcaaaGreatDoor
open Go Go.RowKit Go.Maps
set_option maxHeartbeats 4000000
set_option maxRecDepth 100000
def sA : ByteArray := ⟨#[65]⟩
def sB : ByteArray := ⟨#[66]⟩
def sk : ByteArray := ⟨#[107]⟩
def sx : ByteArray := ⟨#[120]⟩
def numV (n : Int) : V := V.mk 2 false n ⟨#[]⟩ [] []
def xV : V := V.mk 3 false 0 sx [] []
def nodeV (id : Int) (label : ByteArray) (v : V) : NodeD := ⟨id, [label], [⟨sk, v⟩]⟩
def gW : GraphD := ⟨[nodeV 0 sA (numV 2), nodeV 1 sA (numV 1), nodeV 2 sA (numV 2), nodeV 3 sA xV, nodeV 4 sB (numV 1)], [], 5, 0⟩
def xW : IdxD := ⟨sA, sk, [⟨3, xV⟩, ⟨1, numV 1⟩, ⟨0, numV 2⟩, ⟨2, numV 2⟩]⟩
theorem wname_A : wName sA = true := by kernel_rfl
theorem wname_k : wName sk = true := by kernel_rfl
theorem gW_check : gW.check = 0 := by kernel_rfl
theorem gW_make : makeD sA sk gW.nodes = xW := by kernel_rfl
theorem xW_values : xW.values = 3 := by kernel_rfl
theorem xW_seek : (xW.seek (numV 2)).length = 2 := by kernel_rfl
theorem xW_below : (xW.l.filter fun e => V.lessOr (numV 2) true e.val).length = 3 := by kernel_rfl
theorem xW_above : (xW.l.filter fun e => V.moreOr (numV 1) false e.val).length = 2 := by kernel_rfl
/-- The two changes of works(). -/
def c1W : ChangeD := ⟨0, 0, 0, nodeV 1 sA (numV 2), ⟨0, 0, 0, ⟨#[]⟩, []⟩⟩
def c2W : ChangeD := ⟨2, 0, 0, ⟨0, [], []⟩, ⟨0, 0, 0, ⟨#[]⟩, []⟩⟩
def yW : IdxD := ⟨sA, sk, [⟨3, xV⟩, ⟨1, numV 2⟩, ⟨2, numV 2⟩]⟩
def mW : IdxD := ⟨sA, sk, [⟨3, xV⟩, ⟨0, numV 2⟩, ⟨1, numV 2⟩, ⟨2, numV 2⟩]⟩
theorem mW_chg : chgs xW [c1W] = mW := by kernel_rfl
theorem yW_chg : chgs xW [c1W, c2W] = yW := by kernel_rfl
theorem yW_seek : (yW.seek (numV 2)).length = 2 := by kernel_rfl
theorem cW_may : ([c1W, c2W].any fun c => !c.may) = false := by kernel_rfl
theorem dropOk_of {x : IdxD} {id : Int} {e : EntD} {k : Nat} (h1 : x.l.find? (fun e => e.id == id) = some e) (h2 : atFrom e x.l = k) (h3 : k < x.l.length) (h4 : ∀ i, (x.l.take k ++ x.l.drop (k + 1)).find? (fun e => e.id == i) = if i = id then none else x.l.find? (fun e => e.id == i)) : DropOk x id := by
  intro e' he'
  rw [h1] at he'
  injection he' with he'
  subst he'
  rw [h2]
  exact ⟨h3, h4⟩
theorem xW_drop1 : DropOk xW 1 := by
  refine dropOk_of (e := ⟨1, numV 1⟩) (k := 1) (by kernel_rfl) (by kernel_rfl) (by decide) (fun i => ?_)
  show ([⟨3, xV⟩, ⟨0, numV 2⟩, ⟨2, numV 2⟩] : List EntD).find? (fun e => e.id == i) = if i = 1 then none else ([⟨3, xV⟩, ⟨1, numV 1⟩, ⟨0, numV 2⟩, ⟨2, numV 2⟩] : List EntD).find? (fun e => e.id == i)
  simp only [List.find?_cons, List.find?_nil]
  by_cases h : i = 1
  · subst h; simp
  · have : ((1 : Int) == i) = false := by simp; omega
    rw [if_neg h, this]
theorem mW_drop0 : DropOk mW 0 := by
  refine dropOk_of (e := ⟨0, numV 2⟩) (k := 1) (by kernel_rfl) (by kernel_rfl) (by decide) (fun i => ?_)
  show ([⟨3, xV⟩, ⟨1, numV 2⟩, ⟨2, numV 2⟩] : List EntD).find? (fun e => e.id == i) = if i = 0 then none else ([⟨3, xV⟩, ⟨0, numV 2⟩, ⟨1, numV 2⟩, ⟨2, numV 2⟩] : List EntD).find? (fun e => e.id == i)
  simp only [List.find?_cons, List.find?_nil]
  by_cases h : i = 0
  · subst h; simp
  · have : ((0 : Int) == i) = false := by simp; omega
    rw [if_neg h, this]
theorem numV_size (n : Int) : (numV n).size = 1 := by simp [numV, V.size_eq, V.sumBy, ByteArray.size]
theorem xV_size : xV.size = 2 := by simp [xV, V.size_eq, V.sumBy, ByteArray.size, sx]
theorem xW_ok : IdxOk xW := by
  refine ⟨by rw [BIG_eq]; decide, fun e he => ?_⟩
  rw [BIG_eq]
  simp only [xW, List.mem_cons, List.mem_nil_iff, or_false] at he
  rcases he with rfl | rfl | rfl | rfl
  · show xV.size + 1 ≤ _; rw [xV_size]; decide
  · show (numV 1).size + 1 ≤ _; rw [numV_size]; decide
  · show (numV 2).size + 1 ≤ _; rw [numV_size]; decide
  · show (numV 2).size + 1 ≤ _; rw [numV_size]; decide
theorem mW_ok : IdxOk mW := by
  refine ⟨by rw [BIG_eq]; decide, fun e he => ?_⟩
  rw [BIG_eq]
  simp only [mW, List.mem_cons, List.mem_nil_iff, or_false] at he
  rcases he with rfl | rfl | rfl | rfl
  · show xV.size + 1 ≤ _; rw [xV_size]; decide
  · show (numV 2).size + 1 ≤ _; rw [numV_size]; decide
  · show (numV 2).size + 1 ≤ _; rw [numV_size]; decide
  · show (numV 2).size + 1 ≤ _; rw [numV_size]; decide
theorem yW_ok : IdxOk yW := by
  refine ⟨by rw [BIG_eq]; decide, fun e he => ?_⟩
  rw [BIG_eq]
  simp only [yW, List.mem_cons, List.mem_nil_iff, or_false] at he
  rcases he with rfl | rfl | rfl
  · show xV.size + 1 ≤ _; rw [xV_size]; decide
  · show (numV 2).size + 1 ≤ _; rw [numV_size]; decide
  · show (numV 2).size + 1 ≤ _; rw [numV_size]; decide
theorem stW (k : Nat) (c : ChangeD) (h : [c1W, c2W][k]? = some c) : StepOk (chgs xW ([c1W, c2W].take k)) c := by
  match k, h with
  | 0, h =>
    obtain rfl : c1W = c := by simpa using h
    exact ⟨xW_ok, fun _ => xW_drop1, fun h => by cases h⟩
  | 1, h =>
    obtain rfl : c2W = c := by simpa using h
    rw [show [c1W, c2W].take 1 = [c1W] from rfl, mW_chg]
    exact ⟨mW_ok, fun h => (by cases h), fun _ => ⟨mW_drop0, wf_big (by decide) (by decide)⟩⟩
theorem nodeV_size (id : Int) (l : ByteArray) (v : V) (hl : l.size ≤ 10) (hv : v.size ≤ 10) : (nodeV id l v).size ≤ BIG := by
  have hk : sk.size = 1 := rfl
  have : (nodeV id l v).size = 1 + (1 + l.size + 0) + ((1 + sk.size + v.size) + 0) := rfl
  rw [this, BIG_eq]; omega
theorem gW_sizes : ∀ n, n ∈ gW.nodes → n.size ≤ BIG := by
  intro n hn
  simp only [gW, List.mem_cons, List.mem_nil_iff, or_false] at hn
  rcases hn with rfl | rfl | rfl | rfl | rfl
  · exact nodeV_size _ _ _ (by decide) (by rw [numV_size]; decide)
  · exact nodeV_size _ _ _ (by decide) (by rw [numV_size]; decide)
  · exact nodeV_size _ _ _ (by decide) (by rw [numV_size]; decide)
  · exact nodeV_size _ _ _ (by decide) (by rw [xV_size]; decide)
  · exact nodeV_size _ _ _ (by decide) (by rw [numV_size]; decide)
theorem cW_sizes : ∀ c, c ∈ [c1W, c2W] → c.node.size ≤ BIG := by
  intro c hc
  simp only [List.mem_cons, List.mem_nil_iff, or_false] at hc
  rcases hc with rfl | rfl
  · exact nodeV_size _ _ _ (by decide) (by rw [numV_size]; decide)
  · show 1 + 0 + 0 ≤ BIG; rw [BIG_eq]; decide
end Go.Proofs.YtcmahpddjggcaaaGreatDoor
/- latticelaw12: num, number, node. -/
namespace Go.Proofs.YtcmahpddjggcaaaGreatDoor
open Go Go.RowKit Go.Maps
set_option maxHeartbeats 4000000
set_option maxRecDepth 100000
theorem num_any (n : Int) (w : World) : Calls Tryz.prog 24 #[.int .i64 n] w fun e w' => e = .returned (.int .i64 n) ∧ w' = w := by
  go_enter Tryz.func24, Tryz.ntmps24
  go_wp2
  go_ret
  exact ⟨rfl, rfl⟩
theorem numV_rep (n : Int) (I : Nat → Prop) (w : World) : V.ty.rep I w (numV n) [.int .i64 2, .bool false, .int .i64 n, .string ⟨#[]⟩, .slice none 0 0, .slice none 0 0] :=
  V.rep_mk (ks := []) (l := []) (Nat.le_refl _) (Nat.le_refl _) (.inl rfl) (.inl rfl)
theorem xV_rep (I : Nat → Prop) (w : World) : V.ty.rep I w xV [.int .i64 3, .bool false, .int .i64 0, .string sx, .slice none 0 0, .slice none 0 0] :=
  V.rep_mk (ks := []) (l := []) (Nat.le_refl _) (Nat.le_refl _) (.inl rfl) (.inl rfl)
theorem number_any (n : Int) (w : World) : Calls Tryz.prog 75 #[.int .i64 n] w fun e w' => e = .returned (.agg #[.int .i64 2, .bool false, .int .i64 n, .string ⟨#[]⟩, .slice none 0 0, .slice none 0 0]) ∧ Below w.heap.size w w' := by
  have hB := below_alloc' (Below.refl w.heap.size w) (Nat.le_refl _) (.cells #[.int .i64 2, .bool false, .int .i64 n, .string ⟨#[]⟩, .slice none 0 0, .slice none 0 0] 26)
  obtain ⟨y, z, l⟩ := (Blk.new w [.int .i64 2, .bool false, .int .i64 n, .string ⟨#[]⟩, .slice none 0 0, .slice none 0 0] 26).facts
  go_enter Tryz.func75, Tryz.ntmps75
  go_wp2
  refine bodyPost_ret (v := .agg #[.int .i64 2, .bool false, .int .i64 n, .string ⟨#[]⟩, .slice none 0 0, .slice none 0 0]) (by simp [results, Tryz.results75, go_sem, y]) rfl ⟨rfl, hB⟩
theorem node_any12 (id : Int) (label : ByteArray) (v : V) (J : Nat → Prop) (w : World) (ds : List Value) (hv : V.ty.rep J w v ds) :
    Calls Tryz.prog 74 #[.int .i64 id, .string label, .agg ds.toArray] w fun e w' => ∃ b1 b2, e = .returned (.agg #[.int .i64 id, .slice (some ⟨b1, 0, none⟩) 1 1, .slice (some ⟨b2, 0, none⟩) 1 1]) ∧
      NodeD.ty.rep (fun _ => True) w' (nodeV id label v) [.int .i64 id, .slice (some ⟨b1, 0, none⟩) 1 1, .slice (some ⟨b2, 0, none⟩) 1 1] ∧ Below w.heap.size w w' := by
  obtain ⟨B1, d1, B2, d2, rfl, _⟩ := V.rep_open hv
  have HV := Lib.hid hv
  clear hv
  go_enter Tryz.func74, Tryz.ntmps74
  go_wp2
  have hB : Below w.heap.size w ((((w.alloc (.cells #[.int .i64 v.kind, .bool v.bool, .int .i64 v.int, .string v.text, .slice B1 v.keys.length d1, .slice B2 v.list.length d2] 26)).alloc (.cells #[.int .i64 id, .slice (some ⟨w.heap.size + 1 + 1, 0, none⟩) 1 1, .slice (some ⟨w.heap.size + 1 + 1 + 1, 0, none⟩) 1 1] 65)).alloc (.cells #[.string label] 9)).alloc (.cells #[.string sk, .int .i64 v.kind, .bool v.bool, .int .i64 v.int, .string v.text, .slice B1 v.keys.length d1, .slice B2 v.list.length d2] 124)) := below_alloc' (below_alloc' (below_alloc' (below_alloc' (Below.refl _ _) (Nat.le_refl _) _) (Nat.le_refl _) _) (Nat.le_refl _) _) (Nat.le_refl _) _
  have bn : Blk ((((w.alloc (.cells #[.int .i64 v.kind, .bool v.bool, .int .i64 v.int, .string v.text, .slice B1 v.keys.length d1, .slice B2 v.list.length d2] 26)).alloc (.cells #[.int .i64 id, .slice (some ⟨w.heap.size + 1 + 1, 0, none⟩) 1 1, .slice (some ⟨w.heap.size + 1 + 1 + 1, 0, none⟩) 1 1] 65)).alloc (.cells #[.string label] 9)).alloc (.cells #[.string sk, .int .i64 v.kind, .bool v.bool, .int .i64 v.int, .string v.text, .slice B1 v.keys.length d1, .slice B2 v.list.length d2] 124)) (w.heap.size + 1) [.int .i64 id, .slice (some ⟨w.heap.size + 1 + 1, 0, none⟩) 1 1, .slice (some ⟨w.heap.size + 1 + 1 + 1, 0, none⟩) 1 1] 65 := by
    have := ((Blk.new (w.alloc (.cells #[.int .i64 v.kind, .bool v.bool, .int .i64 v.int, .string v.text, .slice B1 v.keys.length d1, .slice B2 v.list.length d2] 26)) [.int .i64 id, .slice (some ⟨w.heap.size + 1 + 1, 0, none⟩) 1 1, .slice (some ⟨w.heap.size + 1 + 1 + 1, 0, none⟩) 1 1] 65).alloc (.cells #[.string label] 9)).alloc (.cells #[.string sk, .int .i64 v.kind, .bool v.bool, .int .i64 v.int, .string v.text, .slice B1 v.keys.length d1, .slice B2 v.list.length d2] 124)
    rwa [show (w.alloc (.cells #[.int .i64 v.kind, .bool v.bool, .int .i64 v.int, .string v.text, .slice B1 v.keys.length d1, .slice B2 v.list.length d2] 26)).heap.size = w.heap.size + 1 by simp] at this
  have bl : Blk ((((w.alloc (.cells #[.int .i64 v.kind, .bool v.bool, .int .i64 v.int, .string v.text, .slice B1 v.keys.length d1, .slice B2 v.list.length d2] 26)).alloc (.cells #[.int .i64 id, .slice (some ⟨w.heap.size + 1 + 1, 0, none⟩) 1 1, .slice (some ⟨w.heap.size + 1 + 1 + 1, 0, none⟩) 1 1] 65)).alloc (.cells #[.string label] 9)).alloc (.cells #[.string sk, .int .i64 v.kind, .bool v.bool, .int .i64 v.int, .string v.text, .slice B1 v.keys.length d1, .slice B2 v.list.length d2] 124)) (w.heap.size + 1 + 1) [.string label] 9 := by
    have := (Blk.new ((w.alloc (.cells #[.int .i64 v.kind, .bool v.bool, .int .i64 v.int, .string v.text, .slice B1 v.keys.length d1, .slice B2 v.list.length d2] 26)).alloc (.cells #[.int .i64 id, .slice (some ⟨w.heap.size + 1 + 1, 0, none⟩) 1 1, .slice (some ⟨w.heap.size + 1 + 1 + 1, 0, none⟩) 1 1] 65)) [.string label] 9).alloc (.cells #[.string sk, .int .i64 v.kind, .bool v.bool, .int .i64 v.int, .string v.text, .slice B1 v.keys.length d1, .slice B2 v.list.length d2] 124)
    rwa [show ((w.alloc (.cells #[.int .i64 v.kind, .bool v.bool, .int .i64 v.int, .string v.text, .slice B1 v.keys.length d1, .slice B2 v.list.length d2] 26)).alloc (.cells #[.int .i64 id, .slice (some ⟨w.heap.size + 1 + 1, 0, none⟩) 1 1, .slice (some ⟨w.heap.size + 1 + 1 + 1, 0, none⟩) 1 1] 65)).heap.size = w.heap.size + 1 + 1 by simp] at this
  have bp : Blk ((((w.alloc (.cells #[.int .i64 v.kind, .bool v.bool, .int .i64 v.int, .string v.text, .slice B1 v.keys.length d1, .slice B2 v.list.length d2] 26)).alloc (.cells #[.int .i64 id, .slice (some ⟨w.heap.size + 1 + 1, 0, none⟩) 1 1, .slice (some ⟨w.heap.size + 1 + 1 + 1, 0, none⟩) 1 1] 65)).alloc (.cells #[.string label] 9)).alloc (.cells #[.string sk, .int .i64 v.kind, .bool v.bool, .int .i64 v.int, .string v.text, .slice B1 v.keys.length d1, .slice B2 v.list.length d2] 124)) (w.heap.size + 1 + 1 + 1) [.string sk, .int .i64 v.kind, .bool v.bool, .int .i64 v.int, .string v.text, .slice B1 v.keys.length d1, .slice B2 v.list.length d2] 124 := by
    have := Blk.new (((w.alloc (.cells #[.int .i64 v.kind, .bool v.bool, .int .i64 v.int, .string v.text, .slice B1 v.keys.length d1, .slice B2 v.list.length d2] 26)).alloc (.cells #[.int .i64 id, .slice (some ⟨w.heap.size + 1 + 1, 0, none⟩) 1 1, .slice (some ⟨w.heap.size + 1 + 1 + 1, 0, none⟩) 1 1] 65)).alloc (.cells #[.string label] 9)) [.string sk, .int .i64 v.kind, .bool v.bool, .int .i64 v.int, .string v.text, .slice B1 v.keys.length d1, .slice B2 v.list.length d2] 124
    rwa [show (((w.alloc (.cells #[.int .i64 v.kind, .bool v.bool, .int .i64 v.int, .string v.text, .slice B1 v.keys.length d1, .slice B2 v.list.length d2] 26)).alloc (.cells #[.int .i64 id, .slice (some ⟨w.heap.size + 1 + 1, 0, none⟩) 1 1, .slice (some ⟨w.heap.size + 1 + 1 + 1, 0, none⟩) 1 1] 65)).alloc (.cells #[.string label] 9)).heap.size = w.heap.size + 1 + 1 + 1 by simp] at this
  have hrep : NodeD.ty.rep (fun _ => True) ((((w.alloc (.cells #[.int .i64 v.kind, .bool v.bool, .int .i64 v.int, .string v.text, .slice B1 v.keys.length d1, .slice B2 v.list.length d2] 26)).alloc (.cells #[.int .i64 id, .slice (some ⟨w.heap.size + 1 + 1, 0, none⟩) 1 1, .slice (some ⟨w.heap.size + 1 + 1 + 1, 0, none⟩) 1 1] 65)).alloc (.cells #[.string label] 9)).alloc (.cells #[.string sk, .int .i64 v.kind, .bool v.bool, .int .i64 v.int, .string v.text, .slice B1 v.keys.length d1, .slice B2 v.list.length d2] 124)) (nodeV id label v) [.int .i64 id, .slice (some ⟨w.heap.size + 1 + 1, 0, none⟩) 1 1, .slice (some ⟨w.heap.size + 1 + 1 + 1, 0, none⟩) 1 1] := by
    refine NodeD.rep_mk (n := nodeV id label v) (Nat.le_refl _) (Nat.le_refl _) (.inr ⟨_, 0, rfl, trivial, bl.lt, ⟨⟨_, rfl, fun j u hj => ?_⟩, trivial⟩⟩) (.inr ⟨_, 0, rfl, trivial, bp.lt, ⟨⟨_, PropD.rep_mk (p := ⟨sk, v⟩) (V.ty.mono (fun _ _ => trivial) (V.ty.below hB HV.out)), fun j u hj => ?_⟩, trivial⟩⟩)
    · exact (bl.rd.1 (0 + j)).trans (by rw [Nat.zero_add]; exact hj)
    · exact (bp.rd.1 (0 + j)).trans (by rw [Nat.zero_add]; exact hj)
  have y := bn.rd.1
  have HR := Lib.hid hrep
  have HB := Lib.hid hB
  clear hrep hB bn bl bp HV
  unfold sk at *
  refine bodyPost_ret (v := .agg #[.int .i64 id, .slice (some ⟨w.heap.size + 1 + 1, 0, none⟩) 1 1, .slice (some ⟨w.heap.size + 1 + 1 + 1, 0, none⟩) 1 1]) (by simp [results, Tryz.results74, go_sem, y]) rfl ⟨_, _, rfl, HR.out, HB.out⟩
end Go.Proofs.YtcmahpddjggcaaaGreatDoor
/- latticelaw12.works: the chapter's rows. -/
namespace Go.Proofs.YtcmahpddjggcaaaGreatDoor
open Go Go.RowKit Go.Maps
set_option maxHeartbeats 8000000
set_option maxRecDepth 100000
theorem gW_rep (W : World) (vb : Nat) (c0 c1 c2 c3 c4 : List Value) (hb : Blk W vb (c0 ++ (c1 ++ (c2 ++ (c3 ++ (c4 ++ []))))) 65) (h0 : NodeD.ty.rep (fun _ => True) W (nodeV 0 sA (numV 2)) c0) (h1 : NodeD.ty.rep (fun _ => True) W (nodeV 1 sA (numV 1)) c1) (h2 : NodeD.ty.rep (fun _ => True) W (nodeV 2 sA (numV 2)) c2)
    (h3 : NodeD.ty.rep (fun _ => True) W (nodeV 3 sA xV) c3) (h4 : NodeD.ty.rep (fun _ => True) W (nodeV 4 sB (numV 1)) c4) : GraphD.ty.rep (fun _ => True) W gW [.slice (some ⟨vb, 0, none⟩) 5 5, .slice none 0 0, .int .i64 5, .int .i64 0] := by
  refine GraphD.rep_mk (g := gW) (Nat.le_refl _) (Nat.le_refl _) (.inr ⟨vb, 0, rfl, trivial, hb.lt, ?_⟩) (.inl rfl)
  exact Reps.rowFrom (R := NodeD.ty.rep (fun _ => True) W) (sz := 3) (fun _ _ => NodeD.ty.len) (cs := c0 ++ (c1 ++ (c2 ++ (c3 ++ (c4 ++ []))))) ⟨c0, _, rfl, h0, c1, _, rfl, h1, c2, _, rfl, h2, c3, _, rfl, h3, c4, _, rfl, h4, rfl⟩ (fun j u hj => (hb.rd.1 (0 + j)).trans (by rw [Nat.zero_add]; exact hj))
theorem cW_row (W : World) (vb : Nat) (c1 : List Value) (hb : Blk W vb ((.int .i64 0 :: .int .i64 0 :: .int .i64 0 :: (c1 ++ [.int .i64 0, .int .i64 0, .int .i64 0, .string ⟨#[]⟩, .slice none 0 0])) ++ ([.int .i64 2, .int .i64 0, .int .i64 0, .int .i64 0, .slice none 0 0, .slice none 0 0, .int .i64 0, .int .i64 0, .int .i64 0, .string ⟨#[]⟩, .slice none 0 0] ++ [])) 69)
    (h1 : NodeD.ty.rep (fun _ => True) W (nodeV 1 sA (numV 2)) c1) : Row 11 (ChangeD.ty.rep (fun _ => True) W) (fun _ => True) W (some ⟨vb, 0, none⟩) [c1W, c2W] := by
  refine .inr ⟨vb, 0, rfl, trivial, hb.lt, ?_⟩
  refine Reps.rowFrom (R := ChangeD.ty.rep (fun _ => True) W) (sz := 11) (fun _ _ => ChangeD.ty.len) (cs := _) ⟨_, _, rfl, ChangeD.rep_mk (c := c1W) h1 (RelD.rep_mk (r := ⟨0, 0, 0, ⟨#[]⟩, []⟩) (Nat.le_refl _) (.inl rfl)), _, _, rfl, ChangeD.rep_mk (c := c2W) (NodeD.rep_mk (n := ⟨0, [], []⟩) (Nat.le_refl _) (Nat.le_refl _) (.inl rfl) (.inl rfl)) (RelD.rep_mk (r := ⟨0, 0, 0, ⟨#[]⟩, []⟩) (Nat.le_refl _) (.inl rfl)), rfl⟩ (fun j u hj => (hb.rd.1 (0 + j)).trans (by rw [Nat.zero_add]; exact hj))
theorem neq_nilfunc (b : Nat) (w : World) : (binOp .neq 50 (.func (.func 95) #[] #[.pointer (some ⟨b, 0, none⟩)]) .nilFunc).run Tryz.prog w = .ok (.bool true) w := by kernel_rfl
theorem works_any (w : World) (hT : Tabs w) : Calls Tryz.prog 16 #[] w fun e w' => e = .returned (.bool true) ∧ Below w.heap.size w w' := by
  go_enter Tryz.func16, Tryz.ntmps16
  go_wp2_with fail
  refine (number_any 2 _).mono ?_
  rintro e w1 ⟨rfl, hb1⟩
  go_wp2_with fail
  refine (node_any12 0 sA (numV 2) (fun _ => True) _ _ (numV_rep 2 (fun _ => True) w1)).mono ?_
  rintro e w2 ⟨p0, q0, rfl, hr0, hb2⟩
  go_wp2_with fail
  refine (number_any 1 _).mono ?_
  rintro e w3 ⟨rfl, hb3⟩
  go_wp2_with fail
  refine (node_any12 1 sA (numV 1) (fun _ => True) _ _ (numV_rep 1 (fun _ => True) w3)).mono ?_
  rintro e w4 ⟨p1, q1, rfl, hr1, hb4⟩
  go_wp2_with fail
  refine (number_any 2 _).mono ?_
  rintro e w5 ⟨rfl, hb5⟩
  go_wp2_with fail
  refine (node_any12 2 sA (numV 2) (fun _ => True) _ _ (numV_rep 2 (fun _ => True) w5)).mono ?_
  rintro e w6 ⟨p2, q2, rfl, hr2, hb6⟩
  go_wp2_with fail
  refine (node_any12 3 sA (xV) (fun _ => True) _ _ (xV_rep (fun _ => True) w6)).mono ?_
  rintro e w7 ⟨p3, q3, rfl, hr3, hb7⟩
  go_wp2_with fail
  refine (number_any 1 _).mono ?_
  rintro e w8 ⟨rfl, hb8⟩
  go_wp2_with fail
  refine (node_any12 4 sB (numV 1) (fun _ => True) _ _ (numV_rep 1 (fun _ => True) w8)).mono ?_
  rintro e w9 ⟨p4, q4, rfl, hr4, hb9⟩
  go_wp2_with fail
  have c2 := below_call hb1 hb1.size hb2
  have c3 := below_call c2 c2.size hb3
  have c4 := below_call c3 c3.size hb4
  have c5 := below_call c4 c4.size hb5
  have c6 := below_call c5 c5.size hb6
  have c7 := below_call c6 c6.size hb7
  have c8 := below_call c7 c7.size hb8
  have c9 := below_call c8 c8.size hb9
  have a9 := below_alloc' (below_alloc' (Below.refl w9.heap.size w9) (Nat.le_refl _) (.cells #[.int .i64 0, .slice (some ⟨p0, 0, none⟩) 1 1, .slice (some ⟨q0, 0, none⟩) 1 1, .int .i64 1, .slice (some ⟨p1, 0, none⟩) 1 1, .slice (some ⟨q1, 0, none⟩) 1 1, .int .i64 2, .slice (some ⟨p2, 0, none⟩) 1 1, .slice (some ⟨q2, 0, none⟩) 1 1, .int .i64 3, .slice (some ⟨p3, 0, none⟩) 1 1, .slice (some ⟨q3, 0, none⟩) 1 1, .int .i64 4, .slice (some ⟨p4, 0, none⟩) 1 1, .slice (some ⟨q4, 0, none⟩) 1 1] 65)) (Nat.le_refl _) (.cells #[.slice (some ⟨w9.heap.size, 0, none⟩) 5 5, .slice none 0 0, .int .i64 5, .int .i64 0] 56)
  have bn : Blk ((w9.alloc (.cells #[.int .i64 0, .slice (some ⟨p0, 0, none⟩) 1 1, .slice (some ⟨q0, 0, none⟩) 1 1, .int .i64 1, .slice (some ⟨p1, 0, none⟩) 1 1, .slice (some ⟨q1, 0, none⟩) 1 1, .int .i64 2, .slice (some ⟨p2, 0, none⟩) 1 1, .slice (some ⟨q2, 0, none⟩) 1 1, .int .i64 3, .slice (some ⟨p3, 0, none⟩) 1 1, .slice (some ⟨q3, 0, none⟩) 1 1, .int .i64 4, .slice (some ⟨p4, 0, none⟩) 1 1, .slice (some ⟨q4, 0, none⟩) 1 1] 65)).alloc (.cells #[.slice (some ⟨w9.heap.size, 0, none⟩) 5 5, .slice none 0 0, .int .i64 5, .int .i64 0] 56)) w9.heap.size [.int .i64 0, .slice (some ⟨p0, 0, none⟩) 1 1, .slice (some ⟨q0, 0, none⟩) 1 1, .int .i64 1, .slice (some ⟨p1, 0, none⟩) 1 1, .slice (some ⟨q1, 0, none⟩) 1 1, .int .i64 2, .slice (some ⟨p2, 0, none⟩) 1 1, .slice (some ⟨q2, 0, none⟩) 1 1, .int .i64 3, .slice (some ⟨p3, 0, none⟩) 1 1, .slice (some ⟨q3, 0, none⟩) 1 1, .int .i64 4, .slice (some ⟨p4, 0, none⟩) 1 1, .slice (some ⟨q4, 0, none⟩) 1 1] 65 := (Blk.new w9 [.int .i64 0, .slice (some ⟨p0, 0, none⟩) 1 1, .slice (some ⟨q0, 0, none⟩) 1 1, .int .i64 1, .slice (some ⟨p1, 0, none⟩) 1 1, .slice (some ⟨q1, 0, none⟩) 1 1, .int .i64 2, .slice (some ⟨p2, 0, none⟩) 1 1, .slice (some ⟨q2, 0, none⟩) 1 1, .int .i64 3, .slice (some ⟨p3, 0, none⟩) 1 1, .slice (some ⟨q3, 0, none⟩) 1 1, .int .i64 4, .slice (some ⟨p4, 0, none⟩) 1 1, .slice (some ⟨q4, 0, none⟩) 1 1] 65).alloc _
  have r0 := NodeD.ty.below a9 (NodeD.ty.below hb9 (NodeD.ty.below hb8 (NodeD.ty.below hb7 (NodeD.ty.below hb6 (NodeD.ty.below hb5 (NodeD.ty.below hb4 (NodeD.ty.below hb3 hr0)))))))
  have r1 := NodeD.ty.below a9 (NodeD.ty.below hb9 (NodeD.ty.below hb8 (NodeD.ty.below hb7 (NodeD.ty.below hb6 (NodeD.ty.below hb5 hr1)))))
  have r2 := NodeD.ty.below a9 (NodeD.ty.below hb9 (NodeD.ty.below hb8 (NodeD.ty.below hb7 hr2)))
  have r3 := NodeD.ty.below a9 (NodeD.ty.below hb9 (NodeD.ty.below hb8 hr3))
  have r4 := NodeD.ty.below a9 hr4
  have hg := gW_rep ((w9.alloc (.cells #[.int .i64 0, .slice (some ⟨p0, 0, none⟩) 1 1, .slice (some ⟨q0, 0, none⟩) 1 1, .int .i64 1, .slice (some ⟨p1, 0, none⟩) 1 1, .slice (some ⟨q1, 0, none⟩) 1 1, .int .i64 2, .slice (some ⟨p2, 0, none⟩) 1 1, .slice (some ⟨q2, 0, none⟩) 1 1, .int .i64 3, .slice (some ⟨p3, 0, none⟩) 1 1, .slice (some ⟨q3, 0, none⟩) 1 1, .int .i64 4, .slice (some ⟨p4, 0, none⟩) 1 1, .slice (some ⟨q4, 0, none⟩) 1 1] 65)).alloc (.cells #[.slice (some ⟨w9.heap.size, 0, none⟩) 5 5, .slice none 0 0, .int .i64 5, .int .i64 0] 56)) w9.heap.size [.int .i64 0, .slice (some ⟨p0, 0, none⟩) 1 1, .slice (some ⟨q0, 0, none⟩) 1 1] [.int .i64 1, .slice (some ⟨p1, 0, none⟩) 1 1, .slice (some ⟨q1, 0, none⟩) 1 1] [.int .i64 2, .slice (some ⟨p2, 0, none⟩) 1 1, .slice (some ⟨q2, 0, none⟩) 1 1] [.int .i64 3, .slice (some ⟨p3, 0, none⟩) 1 1, .slice (some ⟨q3, 0, none⟩) 1 1] [.int .i64 4, .slice (some ⟨p4, 0, none⟩) 1 1, .slice (some ⟨q4, 0, none⟩) 1 1] bn r0 r1 r2 r3 r4
  have ca := below_call c9 c9.size a9
  have HM := Lib.hid (make_any gW sA sk _ _ _ hg (by show 5 + 1 ≤ BIG; decide) (by show 0 ≤ BIG; decide) gW_sizes (fun n hn => by cases hn) (hT.below ca) wname_A wname_k gW_check)
  rw [gW_make] at HM
  have hTa := hT.below ca
  clear r0 r1 r2 r3 r4 hg bn hr0 hr1 hr2 hr3 hr4 hb1 hb2 hb3 hb4 hb5 hb6 hb7 hb8 hb9 c2 c3 c4 c5 c6 c7 c8 c9 a9
  refine HM.out.mono ?_
  rintro e w10 ⟨p, B, N, sl, mb, rfl, hwB, hN, hI, hb10⟩
  have ha := below_call ca ca.size hb10
  have hwB' := Nat.le_trans ca.size hwB
  have hT10 := hTa.below hb10
  clear HM ca hTa hb10
  go_wp2_with fail
  refine (num_any 0 _).mono ?_
  rintro e w11 ⟨rfl, rfl⟩
  go_wp2_with fail
  refine (len_any B N _ _ p sl mb xW hI xW_ok hT10).mono ?_
  rw [xW_values]
  rintro e w11 ⟨rfl, hb11⟩
  have hI11 := hI.below hb11
  have ha11 := below_call ha ha.size hb11
  have hT11 := hT10.below hb11
  clear hI hT10 hb11 ha
  go_wp2_with fail
  refine (number_any 2 _).mono ?_
  rintro e w12 ⟨rfl, hb12⟩
  have hI12 := hI11.below hb12
  have ha12 := below_call ha11 ha11.size hb12
  have hT12 := hT11.below hb12
  clear hI11 hT11 hb12 ha11
  go_wp2_with fail
  refine (seek_any _ _ _ (fun _ => True) _ p _ _ xW (numV 2) _ hI12 xW_ok (numV_rep 2 (fun _ => True) _) (by rw [numV_size]; decide) hT12).mono ?_
  rintro e w13 ⟨v13, B13, rfl, _, hO13, hb13⟩
  obtain ⟨A13, c13, hv13⟩ := hO13.form
  rw [xW_seek] at hv13
  subst hv13
  have hI13 := hI12.below hb13
  have ha13 := below_call ha12 ha12.size hb13
  have hT13 := hT12.below hb13
  clear hI12 hT12 hb13 ha12 hO13
  go_wp2_with fail
  refine (number_any 2 _).mono ?_
  rintro e w14 ⟨rfl, hb14⟩
  have hI14 := hI13.below hb14
  have ha14 := below_call ha13 ha13.size hb14
  have hT14 := hT13.below hb14
  clear hI13 hT13 hb14 ha13
  go_wp2_with fail
  refine (below_any _ _ _ (fun _ => True) _ p _ _ xW (numV 2) true _ hI14 xW_ok (numV_rep 2 (fun _ => True) _) (by rw [numV_size]; decide) hT14).mono ?_
  rintro e w15 ⟨l15, hl15, v15, B15, rfl, _, hO15, hb15⟩
  obtain ⟨A15, c15, hv15⟩ := hO15.form
  rw [hl15, xW_below] at hv15
  subst hv15
  have hI15 := hI14.below hb15
  have ha15 := below_call ha14 ha14.size hb15
  have hT15 := hT14.below hb15
  clear hI14 hT14 hb15 ha14 hO15 hl15
  go_wp2_with fail
  refine (number_any 1 _).mono ?_
  rintro e w16 ⟨rfl, hb16⟩
  have hI16 := hI15.below hb16
  have ha16 := below_call ha15 ha15.size hb16
  have hT16 := hT15.below hb16
  clear hI15 hT15 hb16 ha15
  go_wp2_with fail
  refine (above_any _ _ _ (fun _ => True) _ p _ _ xW (numV 1) false _ hI16 xW_ok (numV_rep 1 (fun _ => True) _) (by rw [numV_size]; decide) hT16).mono ?_
  rintro e w17 ⟨l17, hl17, v17, B17, rfl, _, hO17, hb17⟩
  obtain ⟨A17, c17, hv17⟩ := hO17.form
  rw [hl17, xW_above] at hv17
  subst hv17
  have hI17 := hI16.below hb17
  have ha17 := below_call ha16 ha16.size hb17
  have hT17 := hT16.below hb17
  clear hI16 hT16 hb17 ha16 hO17 hl17
  go_wp2_with fail
  refine (number_any 2 _).mono ?_
  rintro e w18 ⟨rfl, hb18⟩
  have hI18 := hI17.below hb18
  have ha18 := below_call ha17 ha17.size hb18
  have hT18 := hT17.below hb18
  clear hI17 hT17 hb18 ha17
  go_wp2_with fail
  refine (node_any12 1 sA (numV 2) (fun _ => True) _ _ (numV_rep 2 (fun _ => True) w18)).mono ?_
  rintro e w19 ⟨pn, qn, rfl, hrn, hb19⟩
  have hI19 := hI18.below hb19
  have ha19 := below_call ha18 ha18.size hb19
  have hT19 := hT18.below hb19
  clear hI18 hT18 hb19 ha18
  go_wp2_with fail
  have hbx := below_alloc' (Below.refl w19.heap.size w19) (Nat.le_refl _) (.cells #[.int .i64 0, .int .i64 0, .int .i64 0, .int .i64 1, .slice (some ⟨pn, 0, none⟩) 1 1, .slice (some ⟨qn, 0, none⟩) 1 1, .int .i64 0, .int .i64 0, .int .i64 0, .string ⟨#[]⟩, .slice none 0 0, .int .i64 2, .int .i64 0, .int .i64 0, .int .i64 0, .slice none 0 0, .slice none 0 0, .int .i64 0, .int .i64 0, .int .i64 0, .string ⟨#[]⟩, .slice none 0 0] 69)
  have hrow := cW_row (w19.alloc (.cells #[.int .i64 0, .int .i64 0, .int .i64 0, .int .i64 1, .slice (some ⟨pn, 0, none⟩) 1 1, .slice (some ⟨qn, 0, none⟩) 1 1, .int .i64 0, .int .i64 0, .int .i64 0, .string ⟨#[]⟩, .slice none 0 0, .int .i64 2, .int .i64 0, .int .i64 0, .int .i64 0, .slice none 0 0, .slice none 0 0, .int .i64 0, .int .i64 0, .int .i64 0, .string ⟨#[]⟩, .slice none 0 0] 69)) w19.heap.size [.int .i64 1, .slice (some ⟨pn, 0, none⟩) 1 1, .slice (some ⟨qn, 0, none⟩) 1 1] (Blk.new w19 [.int .i64 0, .int .i64 0, .int .i64 0, .int .i64 1, .slice (some ⟨pn, 0, none⟩) 1 1, .slice (some ⟨qn, 0, none⟩) 1 1, .int .i64 0, .int .i64 0, .int .i64 0, .string ⟨#[]⟩, .slice none 0 0, .int .i64 2, .int .i64 0, .int .i64 0, .int .i64 0, .slice none 0 0, .slice none 0 0, .int .i64 0, .int .i64 0, .int .i64 0, .string ⟨#[]⟩, .slice none 0 0] 69) (NodeD.ty.below hbx hrn)
  have hI20 := hI19.below hbx
  have ha20 := below_call ha19 ha19.size hbx
  have hT20 := hT19.below hbx
  have HCH := Lib.hid (change_any [c1W, c2W] (some ⟨w19.heap.size, 0, none⟩) 2 B N _ (fun _ => True) _ p sl mb xW hI20 hrow (by show 2 ≤ BIG; decide) hN cW_sizes cW_may xW_ok stW hT20)
  rw [yW_chg] at HCH
  have HA20 := Lib.hid ha20
  have hTw := Lib.hid (fun w' (h : Below w.heap.size w w') => hT.below h)
  clear hI19 ha19 hT19 hbx hrow hI20 ha20 hT20 hrn
  refine HCH.out.mono ?_
  rintro e w21 ⟨rfl, hb21, sl2, mb2, hI21⟩
  have ha21 := HA20.out.trans (hb21.mono hwB')
  have hT21 := hTw.out _ ha21
  clear HCH hb21
  go_wp2_with fail
  refine (num_any 0 _).mono ?_
  rintro e w22 ⟨rfl, rfl⟩
  go_wp2_with fail
  refine (number_any 2 _).mono ?_
  rintro e w23 ⟨rfl, hb23⟩
  have hI23 := hI21.below hb23
  have ha23 := below_call ha21 ha21.size hb23
  have hT23 := hT21.below hb23
  clear hI21 hT21 hb23 ha21
  go_wp2_with fail
  refine (seek_any _ _ _ (fun _ => True) _ p _ _ yW (numV 2) _ hI23 yW_ok (numV_rep 2 (fun _ => True) _) (by rw [numV_size]; decide) hT23).mono ?_
  rintro e w24 ⟨v24, B24, rfl, _, hO24, hb24⟩
  obtain ⟨A24, c24, hv24⟩ := hO24.form
  rw [yW_seek] at hv24
  subst hv24
  have hI24 := hI23.below hb24
  have ha24 := below_call ha23 ha23.size hb24
  clear hI23 hT23 hb24 ha23 hO24
  go_wp2_with fail
  refine (there_any p _ _ _ _ _ hI24.1).mono ?_
  rintro e w25 ⟨rfl, rfl⟩
  go_wp2_with fail
  refine (entries_any _ _ _ _ p _ _ yW hI24 yW_ok).mono ?_
  rintro e w26 ⟨⟨bE, vE, BE, rfl, _⟩, hb26⟩
  have hnf := neq_nilfunc bE w26
  have ha26 := below_call ha24 ha24.size hb26
  clear hI24 hb26 ha24
  go_wp2_with fail
  go_ret
  exact ⟨rfl, ha26⟩
end Go.Proofs.YtcmahpddjggcaaaGreatDoor
