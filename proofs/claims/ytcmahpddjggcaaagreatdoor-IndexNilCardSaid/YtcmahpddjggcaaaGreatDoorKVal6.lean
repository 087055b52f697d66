/- value.Check: whether a value may be. -/
import Derived.Test.YtcmahpddjggcaaaGreatDoorKVal5
import Derived.Shelf.Abstract
namespace Go.Proofs.YtcmahpddjggcaaaGreatDoor
open Go Go.RowKit
set_option maxHeartbeats 2000000
set_option maxRecDepth 100000
attribute [local go_sem] Oper.semAt_some

/-- Between two rounds: the sums so far, all so far may be. -/
def ChkI (w : World) (pre : List (Int × V)) (W : World) : Prop :=
  Blk W (w.heap.size + 1) [.int .i64 0] 45 ∧ Blk W (w.heap.size + 1 + 1) [.int .i64 ((V.sums pre).1 : Int)] 3 ∧ Blk W (w.heap.size + 1 + 1 + 1) [.bool (V.sums pre).2] 4 ∧ Below w.heap.size w W ∧ pre.all (fun p => p.2.may) = true
/-- A round has met what may not be. -/
def ChkX (w : World) (c : Code) (pre : List (Int × V)) (W : World) : Prop :=
  c = .ret ∧ Blk W (w.heap.size + 1) [.int .i64 110] 45 ∧ Below w.heap.size w W ∧ pre.all (fun p => p.2.may) = false
theorem Blk.own {W W' : World} {row : Option Nat} {n B : Nat} {cs : List Value} {T : TypeId} (h : Blk W n cs T) (hg : W.grownBy W' row) (hr : ∀ r, row = some r → B ≤ r ∧ ∃ o : Obj, W.heap[r]? = some o ∧ o.isCells = false) : Blk W' n cs T :=
  h.grown hg fun e => by
    obtain ⟨_, o, ho, hc⟩ := hr n e.symm
    unfold Blk at h
    rw [h] at ho
    injection ho with ho
    rw [← ho] at hc
    cases hc
theorem below_own {w W W' : World} {row : Option Nat} {B B' : Nat} (h : Below B w W) (hB : B ≤ B') (hw : B ≤ w.heap.size) (hg : W.grownBy W' row) (hr : ∀ r, row = some r → B' ≤ r ∧ ∃ o : Obj, W.heap[r]? = some o ∧ o.isCells = false) : Below B w W' :=
  h.grown hg (Nat.le_trans hw h.size) fun k e => Nat.le_trans hB (hr k e).1
theorem V.bytes_le (v : V) : v.bytes ≤ v.size := by
  obtain ⟨k, b, n, t, ks, l⟩ := v
  have := V.bytes_mk k b n t ks l
  rw [V.size_eq]; omega
theorem Item.open {B : Nat} {w0 : World} (x : Item B w0) : ∃ c0 c1 c2 c3 c4 c5, Item.enc x = #[.int .i64 (Item.pr x).1, .agg #[c0, c1, c2, c3, c4, c5]] ∧ V.ty.rep (fun b => b < B) w0 (Item.pr x).2 [c0, c1, c2, c3, c4, c5] := by
  obtain ⟨⟨⟨d, u⟩, cs⟩, hr, h⟩ := x
  have hl := V.ty.len hr
  match cs, hl with
  | [c0, c1, c2, c3, c4, c5], _ => exact ⟨c0, c1, c2, c3, c4, c5, rfl, hr⟩
theorem keepsFrom_below {B : Nat} {W W' : World} (h : Below W.heap.size W W') : KeepsFrom B W W' := ⟨h.size, fun k _ _ ho _ => (h.block k (Array.getElem?_eq_some_iff.1 ho).1).trans ho⟩
theorem Blk.setI {W : World} {n : Nat} {c : Value} {T : TypeId} (h : Blk W n [c] T) {X Y : Int} (e : X = Y) : Blk (W.setCell ⟨n, 0, none⟩ (.int .i64 X)) n [.int .i64 Y] T := by
  subst e; exact h.set 0 _
theorem Blk.toI {W : World} {n : Nat} {X Y : Int} {T : TypeId} (h : Blk W n [.int .i64 X] T) (e : X = Y) : Blk W n [.int .i64 Y] T := by subst e; exact h
theorem Kept.setCell {B M : Nat} {W W' : World} (h : Kept B M W W') {n : Nat} (h1 : B ≤ n) (h2 : n < M) (j : Nat) (v : Value) : Kept B M W (W'.setCell ⟨n, j, none⟩ v) :=
  ⟨h.below.setCell (p := ⟨n, j, none⟩) h1 v, fun b o hb ho hc => (heap_set (by omega) W' j v).trans (h.cells b o hb ho hc)⟩
theorem bytes_mul {B : Nat} {w0 : World} (l : List (Item B w0)) : (V.sums (l.map Item.pr)).1 ≤ l.length * BIG := by
  have h := V.sums_fst (l.map Item.pr) (0, false)
  simp only [V.sums]
  rw [h]
  clear h
  induction l with
  | nil => simp [V.sumBy]
  | cons x xs ih =>
    have h1 := V.bytes_le (Item.pr x).2
    have h2 : (Item.pr x).2.size ≤ BIG := x.2.2.1
    simp only [List.map_cons, V.sumBy, List.length_cons, Nat.add_mul, Nat.one_mul] at ih ⊢
    omega
theorem V.pre_len : ∀ (v : V) (d : Int), (v.pre d).length ≤ v.size := by
  intro v
  induction v using V.ind with
  | h k b n t ks l ih =>
    intro d
    rw [V.pre_eq, V.size_eq, V.pres_eq]
    have : ∀ m : List V, (∀ x, x ∈ m → ∀ d, (x.pre d).length ≤ x.size) → (m.flatMap fun x => x.pre (d + 1)).length ≤ V.sumBy V.size m := by
      intro m hm
      induction m with
      | nil => simp [V.sumBy]
      | cons x xs ih2 =>
        have h1 := hm x (by simp) (d + 1)
        have h2 := ih2 (fun y hy => hm y (by simp [hy]))
        simp only [List.flatMap_cons, List.length_append, V.sumBy]
        omega
    have := this l (fun x hx => ih x hx)
    simp only [List.length_cons, V.list]
    omega

theorem putObj_blk {W : World} {n D : Nat} {cs : List Value} {T : TypeId} (h : Blk W n cs T) (o : Obj) (hn : n ≠ D) : Blk (W.putObj D o) n cs T := h.same (World.putObj_heap_other hn)
theorem below_putObj {B D : Nat} {w W : World} (h : Below B w W) (hD : B ≤ D) (o : Obj) : Below B w (W.putObj D o) :=
  h.trans ⟨rfl, rfl, rfl, by simp, fun k hk => World.putObj_heap_other (by omega)⟩
/-- At the door, returning: the result is read behind the deferred closure, which turns nothing. -/
theorem leave_ret (w W : World) (D : Nat) (x y : Int) (tmps : Array Value) (h2 : tmps[2]?.getD undef = .pointer (some ⟨w.heap.size + 1, 0, none⟩)) (hr : Blk W (w.heap.size + 1) [.int .i64 x] 45) (hB : Below w.heap.size w W) (hD : w.heap.size + 1 < D)
    (hK : W.heap[D]? = some (.deferred (some []))) (hxy : x = y) :
    LeavesInM Fence.wide 5 Tryz.prog Tryz.f78 tmps (fun e w' => e = .returned (.int .i64 y) ∧ Below w.heap.size w w') [{ target := .collected D, args := #[] }, { target := .fn (.func 180) #[.pointer (some ⟨w.heap.size + 1, 0, none⟩)], args := #[] }] .returning W := by
  subst hxy
  refine ⟨by simp, .inl ⟨D, _, rfl, run_takeDeferred hK, ?_⟩⟩
  refine ⟨by simp, .inr ⟨fun _ => by omega, _, _, 180, #[.pointer (some ⟨w.heap.size + 1, 0, none⟩)], rfl, by simp [go_sem], fun _ _ => trivial, ?_⟩⟩
  refine (check1_ret 4 _ _).mono ?_
  rintro e u' w' ⟨rfl, rfl, rfl⟩
  obtain ⟨y1, _⟩ := (putObj_blk hr (.deferred none) (by omega : w.heap.size + 1 ≠ D)).rd
  refine ⟨_, ?_, rfl, below_putObj hB (by omega) _⟩
  simp [results, Tryz.results78, go_sem, h2, y1]
/-- .. panicking: the closure takes the panic up, and lays 3. -/
theorem leave_panic (w W : World) (D : Nat) (x : Int) (tmps : Array Value) (h2 : tmps[2]?.getD undef = .pointer (some ⟨w.heap.size + 1, 0, none⟩)) (hr : Blk W (w.heap.size + 1) [.int .i64 x] 45) (hB : Below w.heap.size w W) (hD : w.heap.size + 1 < D)
    (hK : W.heap[D]? = some (.deferred (some []))) :
    LeavesInM Fence.wide 5 Tryz.prog Tryz.f78 tmps (fun e w' => e = .returned (.int .i64 3) ∧ Below w.heap.size w w') [{ target := .collected D, args := #[] }, { target := .fn (.func 180) #[.pointer (some ⟨w.heap.size + 1, 0, none⟩)], args := #[] }] (.panicking [{ v := .iface 250 (.agg #[]), recovered := false }]) W := by
  refine ⟨by simp, .inl ⟨D, _, rfl, run_takeDeferred hK, ?_⟩⟩
  refine ⟨by simp, .inr ⟨fun _ => by omega, _, _, 180, #[.pointer (some ⟨w.heap.size + 1, 0, none⟩)], rfl, by simp [go_sem], fun _ _ => trivial, ?_⟩⟩
  have b1 := putObj_blk hr (.deferred none) (by omega : w.heap.size + 1 ≠ D)
  refine (check1_panic 4 _ _ x b1).mono ?_
  rintro e u' w' ⟨rfl, rfl, rfl⟩
  have b2 := (b1.set 0 (.int .i64 3)).alloc (.cells #[] 250)
  obtain ⟨y1, _⟩ := b2.rd
  refine ⟨_, ?_, rfl, below_alloc' ((below_putObj hB (by omega) _).setCell (p := ⟨w.heap.size + 1, 0, none⟩) (by simp) _) (Nat.le_refl _) _⟩
  simp [results, Tryz.results78, go_sem, h2, y1]

theorem check_any (v : V) (I : Nat → Prop) (w : World) (cs : List Value) (h : V.ty.rep I w v cs) (hs : v.size + 1 ≤ BIG) (hT : Tabs w) :
    Calls Tryz.prog 78 #[.agg cs.toArray] w fun e w' => e = .returned (.int .i64 v.check) ∧ Below w.heap.size w w' := by
  have hrep : V.ty.rep (fun b => b < w.heap.size) w v cs := V.ty.mono (fun b hb => hb.2) (V.ty.lt h)
  have hrep0 := hrep
  obtain ⟨A1, c1, A2, c2, rfl, h1, h2, h3, h4⟩ := V.rep_open h
  refine (callsIn_wide (n := 5)).1 ?_
  refine callsIn_of_wp_marks Tryz.func78 rfl trivial ?_ rfl
  simp only [Tryz.ntmps78, List.size_toArray, List.length_cons, List.length_nil, Nat.reduceAdd, Nat.reduceSub, Array.replicate_succ, Array.replicate_zero, List.push_toArray, List.append_toArray, List.nil_append, List.cons_append]
  gi_wp2_with fail
  refine ⟨trivial, ?_⟩
  refine (callsIn_wide.2 (all_any _ _ _ _ _ _ _ _ rfl)).mono ?_
  rintro e w1 ⟨rfl, rfl⟩
  gi_wp2_with fail
  obtain ⟨W5, hW5⟩ : ∃ W5, (((((w.alloc (.cells #[.int .i64 v.kind, .bool v.bool, .int .i64 v.int, .string v.text, .slice A1 v.keys.length c1, .slice A2 v.list.length c2] 26)).alloc (.cells #[.int .i64 0] 45)).alloc (.cells #[.int .i64 0] 3)).alloc (.cells #[.bool false] 4)).alloc (.cells #[.int .i64 v.kind, .bool v.bool, .int .i64 v.int, .string v.text, .slice A1 v.keys.length c1, .slice A2 v.list.length c2] 26)) = W5 := ⟨_, rfl⟩
  have hB5 : Below w.heap.size w W5 := by rw [← hW5]; exact ((((Below.refl _ w).alloc (Nat.le_refl _) _).alloc (by simp) _).alloc (by simp; omega) _).alloc (by simp; omega) _ |>.alloc (by simp; omega) _
  have hsz : W5.heap.size ≤ w.heap.size + 1 + 1 + 1 + 1 + 1 := by rw [← hW5]; simp
  have hsz' : w.heap.size + 1 + 1 + 1 + 1 + 1 ≤ W5.heap.size := by rw [← hW5]; simp
  have b1 : Blk W5 (w.heap.size + 1) [.int .i64 0] 45 := by
    have := (((Blk.new (w.alloc (.cells #[.int .i64 v.kind, .bool v.bool, .int .i64 v.int, .string v.text, .slice A1 v.keys.length c1, .slice A2 v.list.length c2] 26)) [.int .i64 0] 45).alloc (.cells #[.int .i64 0] 3)).alloc (.cells #[.bool false] 4)).alloc (.cells #[.int .i64 v.kind, .bool v.bool, .int .i64 v.int, .string v.text, .slice A1 v.keys.length c1, .slice A2 v.list.length c2] 26)
    rw [← hW5]; simpa using this
  have b2 : Blk W5 (w.heap.size + 1 + 1) [.int .i64 0] 3 := by
    have := ((Blk.new ((w.alloc (.cells #[.int .i64 v.kind, .bool v.bool, .int .i64 v.int, .string v.text, .slice A1 v.keys.length c1, .slice A2 v.list.length c2] 26)).alloc (.cells #[.int .i64 0] 45)) [.int .i64 0] 3).alloc (.cells #[.bool false] 4)).alloc (.cells #[.int .i64 v.kind, .bool v.bool, .int .i64 v.int, .string v.text, .slice A1 v.keys.length c1, .slice A2 v.list.length c2] 26)
    rw [← hW5]; simpa using this
  have b3 : Blk W5 (w.heap.size + 1 + 1 + 1) [.bool false] 4 := by
    have := (Blk.new (((w.alloc (.cells #[.int .i64 v.kind, .bool v.bool, .int .i64 v.int, .string v.text, .slice A1 v.keys.length c1, .slice A2 v.list.length c2] 26)).alloc (.cells #[.int .i64 0] 45)).alloc (.cells #[.int .i64 0] 3)) [.bool false] 4).alloc (.cells #[.int .i64 v.kind, .bool v.bool, .int .i64 v.int, .string v.text, .slice A1 v.keys.length c1, .slice A2 v.list.length c2] 26)
    rw [← hW5]; simpa using this
  have b4 : Blk W5 (w.heap.size + 1 + 1 + 1 + 1) [.int .i64 v.kind, .bool v.bool, .int .i64 v.int, .string v.text, .slice A1 v.keys.length c1, .slice A2 v.list.length c2] 26 := by
    have := Blk.new ((((w.alloc (.cells #[.int .i64 v.kind, .bool v.bool, .int .i64 v.int, .string v.text, .slice A1 v.keys.length c1, .slice A2 v.list.length c2] 26)).alloc (.cells #[.int .i64 0] 45)).alloc (.cells #[.int .i64 0] 3)).alloc (.cells #[.bool false] 4)) [.int .i64 v.kind, .bool v.bool, .int .i64 v.int, .string v.text, .slice A1 v.keys.length c1, .slice A2 v.list.length c2] 26
    rw [← hW5]; simpa using this
  rw [hW5]
  clear hW5 h h3 h4
  refine wpIn_rangeFunc_ownH rfl (by omega) (gf := 253) (lb := #[.pointer (some ⟨w.heap.size + 1 + 1 + 1 + 1, 0, none⟩)]) rfl trivial (enters_of Tryz.func253 (by kernel_rfl) rfl)
    (all1_stops w.heap.size W5.heap.size w W5 4 _ v _ hrep0 hs (Nat.le_refl _) hB5 b4 (Nat.le_refl _)) (fun h k => h.trans k) (fun W l o o' hl hlo ho _ => Kept.putObj W l o o' (by omega) hlo ho) (Below.refl _ _) (fun _ => rfl)
    (fun pre W => ChkI w (pre.map Item.pr) W ∧ W5.heap.size ≤ W.heap.size) (fun c pre W => ChkX w c (pre.map Item.pr) W) ?hI ?hIx ⟨⟨b1, b2, b3, hB5, rfl⟩, Nat.le_refl _⟩
    (fun x a' W => ∃ bx d c0 c1' c2' c3 c4 c5, W5.heap.size ≤ bx ∧ Item.enc x = #[.int .i64 d, .agg #[c0, c1', c2', c3, c4, c5]] ∧ Blk W bx [c0, c1', c2', c3, c4, c5] 26 ∧ a' = { tmps := #[.agg #[.int .i64 v.kind, .bool v.bool, .int .i64 v.int, .string v.text, .slice A1 v.keys.length c1, .slice A2 v.list.length c2], .pointer (some ⟨w.heap.size, 0, none⟩), .pointer (some ⟨w.heap.size + 1, 0, none⟩), .pointer (some ⟨w.heap.size + 1 + 1, 0, none⟩), .pointer (some ⟨w.heap.size + 1 + 1 + 1, 0, none⟩), .int .i64 d, .pointer (some ⟨bx, 0, none⟩), undef, undef, .func (.func 180) #[] #[.pointer (some ⟨w.heap.size + 1, 0, none⟩)], .agg #[.int .i64 v.kind, .bool v.bool, .int .i64 v.int, .string v.text, .slice A1 v.keys.length c1, .slice A2 v.list.length c2], .func (.func 253) #[] #[.pointer (some ⟨w.heap.size + 1 + 1 + 1 + 1, 0, none⟩)], .int .i64 d, .agg #[c0, c1', c2', c3, c4, c5], undef, undef, undef, undef, undef, undef, undef, undef, undef, undef, undef, undef, undef, undef, undef, undef, undef, undef, undef, undef, undef, undef, undef, undef, undef, undef, undef, undef, undef, undef, undef, undef, undef, undef, undef, undef, undef, undef], defers := [] }) ?hAx ?assign ?body ?done ?stop
  case hI =>
    rintro s W W' row ⟨⟨k1, k2, k3, k4, k5⟩, k6⟩ hg hr
    exact ⟨⟨k1.own hg hr, k2.own hg hr, k3.own hg hr, below_own k4 (by omega) (Nat.le_refl _) hg hr, k5⟩, Nat.le_trans k6 hg.size⟩
  case hIx =>
    rintro c s W W' row ⟨k1, k2, k3, k4⟩ hg hr
    exact ⟨k1, k2.own hg hr, below_own k3 (by omega) (Nat.le_refl _) hg hr, k4⟩
  case hAx =>
    rintro x a' _ W W' row ⟨bx, d, c0, c1, c2, c3, c4, c5, k1, k2, k3, k4⟩ hg hr
    exact ⟨bx, d, c0, c1, c2, c3, c4, c5, k1, k2, k3.own hg hr, k4⟩
  case assign =>
    rintro l pre x W K ⟨⟨k1, k2, k3, k4, k5⟩, k6⟩ hK
    obtain ⟨c0, c1', c2', c3, c4, c5, he, hr⟩ := Item.open x
    obtain ⟨D1, d1, D2, d2, hcs, _⟩ := V.rep_open hr
    simp only [List.cons.injEq, and_true] at hcs
    obtain ⟨rfl, rfl, rfl, rfl, rfl, rfl⟩ := hcs
    rw [he]
    simp only [List.zip_toArray, List.zip_cons_cons, List.zip_nil_right, List.foldl_toArray, List.foldl_cons, List.foldl_nil, List.setIfInBounds_toArray, List.set_cons_succ, List.set_cons_zero]
    have HK := Lib.hid hK
    clear hK
    gi_wp2
    refine HK.out _ _ ((KeepsOthers.alloc _ _).from _) (Kept.of_below (Nat.le_trans (by omega) k4.size) (below_alloc' (Below.refl _ _) (Nat.le_refl _) _)) ⟨⟨k1.alloc _, k2.alloc _, k3.alloc _, below_alloc' k4 (Nat.le_refl _) _, k5⟩, by simp; omega⟩
      ⟨W.heap.size, _, _, _, _, _, _, _, k6, he, Blk.new W [_, _, _, _, _, _] _, rfl⟩
  case body =>
    rintro l pre x a' W hl ⟨r0, hr0⟩ ⟨⟨k1, k2, k3, k4, k5⟩, k6⟩ ⟨bx, d, c0, c1', c2', c3, c4, c5, hbx, he, kx, rfl⟩ hlen
    obtain ⟨e0, e1, e2, e3, e4, e5, he', hr⟩ := Item.open x
    rw [he] at he'
    simp only [Array.mk.injEq, List.cons.injEq, Value.int.injEq, true_and, Value.agg.injEq, and_true] at he'
    obtain ⟨rfl, rfl, rfl, rfl, rfl, rfl, rfl⟩ := he'
    obtain ⟨D1, d1, D2, d2, hcs, q1, q2, q3, q4⟩ := V.rep_open hr
    simp only [List.cons.injEq, and_true] at hcs
    obtain ⟨rfl, rfl, rfl, rfl, rfl, rfl⟩ := hcs
    have hps := bytes_mul pre
    have hus : (Item.pr x).2.size ≤ BIG := x.2.2.1
    have hd1 : 1 ≤ (Item.pr x).1 := x.2.2.2.1
    have hd2 : (Item.pr x).1 ≤ BIG := x.2.2.2.2
    have hsn : V.sums ((pre ++ [x]).map Item.pr) = V.step (V.sums (pre.map Item.pr)) (Item.pr x) := by rw [List.map_append]; exact V.sums_snoc _ _
    have han : ((pre ++ [x]).map Item.pr).all (fun p => p.2.may) = (Item.pr x).2.may := by rw [List.map_append, List.all_append, k5]; simp
    have hmay := may_any (Item.pr x).2 _ W _ (V.ty.belowB (fun b hb => hb) k4 hr) hus (hT.below k4)
    generalize Item.pr x = p at *
    obtain ⟨d, u⟩ := p
    generalize V.sums (pre.map Item.pr) = sm at *
    obtain ⟨by_, ov⟩ := sm
    simp only at *
    generalize hm : u.may = m at *
    have hpl := V.pre_len v 1
    have hbl : by_ ≤ 1073741824 * 1073741824 := by
      rw [BIG_eq] at hps hs
      have : pre.length ≤ 1073741824 := by omega
      calc by_ ≤ pre.length * 1073741824 := hps
        _ ≤ 1073741824 * 1073741824 := Nat.mul_le_mul_right _ this
    obtain ⟨y1, z1, l1⟩ := k1.facts
    obtain ⟨y2, z2, l2⟩ := k2.facts
    obtain ⟨y3, z3, l3⟩ := k3.facts
    obtain ⟨y4, z4, l4⟩ := kx.facts
    have HM := Lib.hid hmay
    have HSN := Lib.hid hsn
    have HAN := Lib.hid han
    clear hmay hsn han hm hps hpl hr0 he hr
    cases m with
    | false =>
      gi_wp2_with fail
      refine ⟨trivial, ?_⟩
      refine (CallsIn.inRound l (callsIn_wide.2 HM.out)).mono ?_
      rintro e w1 ⟨rfl, hb1⟩
      obtain ⟨g1, f1, s1⟩ := (k1.below hb1).facts
      gi_wp2_with fail
      exact ⟨(keepsFrom_below hb1).trans ((KeepsOthers.setCell _ _ _).from _), rfl, (k1.below hb1).set 0 _, (below_call k4 k4.size hb1).setCell (p := ⟨w.heap.size + 1, 0, none⟩) (by simp) _, HAN.out⟩
    | true =>
      have hul := V.bytes_le u
      have hkl := V.sumBy_len (f := fun s : ByteArray => 1 + s.size) (fun _ => by omega) u.keys
      have hue : u.size = 1 + u.text.size + V.sumBy (fun s => 1 + s.size) u.keys + V.sumBy V.size u.list := by cases u; rw [V.size_eq]; rfl
      have hty : u.text.size ≤ 1073741824 := by rw [BIG_eq] at hus; omega
      have hkn : u.keys.length ≤ 1073741824 := by rw [BIG_eq] at hus; omega
      have hks : ∀ j, V.sumBy (fun s : ByteArray => s.size) (u.keys.take j) ≤ 1073741824 := fun j => by
        have h1 : V.sumBy (fun s : ByteArray => s.size) (u.keys.take j) ≤ V.sumBy (fun s : ByteArray => s.size) u.keys := V.sumBy_prefix (List.take_prefix j u.keys)
        have h2 : u.bytes = u.text.size + V.sumBy (fun s => s.size) u.keys := rfl
        rw [BIG_eq] at hus; omega
      have HUE := Lib.hid hue
      have HKS := Lib.hid hks
      have hK1 : ∀ j, j < u.keys.length → ∃ b off, D1 = some ⟨b, off, none⟩ ∧ b < w.heap.size ∧ w.cell? ⟨b, off + j, none⟩ = some (.string (kAt u.keys j)) := fun j hj => row_str q3 hj
      have HK1 := Lib.hid hK1
      clear hue hks hK1 hul hkl
      gi_wp2_with fail
      refine ⟨trivial, ?_⟩
      refine (CallsIn.inRound l (callsIn_wide.2 HM.out)).mono ?_
      rintro e w1 ⟨rfl, hb1⟩
      have j1 := k1.below hb1
      have j2 := k2.below hb1
      have j3 := k3.below hb1
      have jx := kx.below hb1
      have hB1 := below_call k4 k4.size hb1
      obtain ⟨g1, f1, s1⟩ := j1.facts
      obtain ⟨g2, f2, s2⟩ := j2.facts
      obtain ⟨g3, f3, s3⟩ := j3.facts
      obtain ⟨gx, fx, sx⟩ := jx.facts
      have hW1 := hb1.size
      have HKF := keepsFrom_below (B := W5.heap.size) hb1
      have HKP := Kept.of_below (B := w.heap.size) (M := W5.heap.size) (by omega) hb1
      clear y1 z1 l1 y2 z2 l2 y3 z3 l3 y4 z4 l4 k1 k2 k3 kx hb1 HM q3 q4
      have KF2 := HKF.trans ((KeepsOthers.setCell w1 ⟨w.heap.size + 1 + 1, 0, none⟩ (.int .i64 (↑by_ + ↑u.text.size))).from W5.heap.size)
      have KP2 := HKP.setCell (n := w.heap.size + 1 + 1) (by omega) (by omega) 0 (.int .i64 (↑by_ + ↑u.text.size))
      have JB2 := j2.setI (X := ↑by_ + ↑u.text.size) (Y := ((by_ + u.text.size + V.sumBy (fun s : ByteArray => s.size) (u.keys.take 0) : Nat) : Int)) (by simp [V.sumBy])
      have JR2 := j1.other (m := w.heap.size + 1 + 1) (by omega) 0 (.int .i64 (↑by_ + ↑u.text.size))
      have JO2 := j3.other (m := w.heap.size + 1 + 1) (by omega) 0 (.int .i64 (↑by_ + ↑u.text.size))
      have JX2 := jx.other (m := w.heap.size + 1 + 1) (by omega) 0 (.int .i64 (↑by_ + ↑u.text.size))
      gi_wp2_with fail
      clear g1 f1 g2 f2 g3 f3 gx fx j1 j2 j3 jx HKF HKP hB1
      gi_loopw [25] (fun i wr => ∃ j : Nat, j ≤ u.keys.length ∧ i = .int .i64 j ∧ Blk wr (w.heap.size + 1) [.int .i64 0] 45 ∧ Blk wr (w.heap.size + 1 + 1) [.int .i64 ((by_ + u.text.size + V.sumBy (fun s : ByteArray => s.size) (u.keys.take j) : Nat) : Int)] 3 ∧ Blk wr (w.heap.size + 1 + 1 + 1) [.bool ov] 4 ∧ Blk wr bx [.int .i64 u.kind, .bool u.bool, .int .i64 u.int, .string u.text, .slice D1 u.keys.length d1, .slice D2 u.list.length d2] 26 ∧ KeepsFrom W5.heap.size W wr ∧ Kept w.heap.size W5.heap.size W wr)
        (fun i _ => u.keys.length - (intOf i).toNat)
      case atStart => exact ⟨0, Nat.zero_le _, rfl, JR2, JB2, JO2, JX2, KF2, KP2⟩
      case round =>
        obtain ⟨j, hj, rfl, m1, m2, m3, mx, mf, mp⟩ := hrel
        clear JR2 JB2 JO2 JX2 KF2 KP2
        obtain ⟨g1, f1, s1⟩ := m1.facts
        obtain ⟨g2, f2, s2⟩ := m2.facts
        obtain ⟨g3, f3, s3⟩ := m3.facts
        obtain ⟨gx, fx, sx⟩ := mx.facts
        have hSj := HKS.out j
        by_cases hlt : j < u.keys.length
        · obtain ⟨b, off, rfl, hbl, hcell⟩ := HK1.out j hlt
          have hcr := ((k4.trans mp.below).cell (p := ⟨b, off + j, none⟩) hbl).trans hcell
          have hSn := HKS.out (j + 1)
          have hst : V.sumBy (fun s : ByteArray => s.size) (u.keys.take (j + 1)) = V.sumBy (fun s : ByteArray => s.size) (u.keys.take j) + (kAt u.keys j).size := by
            rw [take_snoc' (List.getElem?_eq_getElem hlt), V.sumBy_append]
            simp only [V.sumBy, kAt, List.getD_eq_getElem?_getD, List.getElem?_eq_getElem hlt, Option.getD_some]; omega
          have hks2 : (kAt u.keys j).size ≤ 1073741824 := by omega
          have HST := Lib.hid hst
          clear hst hcell
          gi_wp2_with fail
          go_roundw
          case rel => exact ⟨j + 1, by omega, by go_num, m1.other (by omega) 0 _, m2.setI (by rw [HST.out]; omega), m3.other (by omega) 0 _, mx.other (by omega) 0 _, mf.trans ((KeepsOthers.setCell _ _ _).from _), mp.setCell (by omega) (by omega) 0 _⟩
          case measure => simp [intOf]; omega
        · have hjl : u.keys.take j = u.keys := List.take_of_length_le (by omega)
          have HF1 := Lib.hid (show (V.step (by_, ov) (d, u)).1 = by_ + u.text.size + V.sumBy (fun s : ByteArray => s.size) (u.keys.take j) by rw [hjl]; simp only [V.step, V.bytes]; omega)
          have HF1' : (V.step (by_, ov) (d, u)).1 = by_ + u.bytes := rfl
          have HE := Lib.hid (show by_ + u.bytes = by_ + u.text.size + V.sumBy (fun s : ByteArray => s.size) (u.keys.take j) from HF1'.symm.trans HF1.out)
          have hll : (u.list.length : Int) ≤ 9223372036854775807 := by
            have h1 := V.sumBy_len (f := V.size) V.size_pos u.list
            have h2 := HUE.out
            rw [BIG_eq] at hus; omega
          clear hjl HF1'
          cases ov with
          | true =>
            have HF2 := Lib.hid (show (V.step (by_, true) (d, u)).2 = true from by simp [V.step])
            gi_wp2_with fail
            refine ⟨mf.trans ((KeepsOthers.setCell _ _ _).from _), mp.setCell (by omega) (by omega) 0 _, ⟨m1.other (by omega) 0 _, ?_, ?_, (k4.trans mp.below).setCell (p := ⟨w.heap.size + 1 + 1 + 1, 0, none⟩) (by show w.heap.size ≤ w.heap.size + 1 + 1 + 1; omega) _, HAN.out⟩, by rw [size_setCell]; exact Nat.le_trans k6 mp.below.size⟩
            · rw [HSN.out, HF1.out]; exact m2.other (by omega) 0 _
            · rw [HSN.out, HF2.out]; exact m3.set 0 _
          | false =>
            by_cases h64 : 64 < d
            · have HF2 := Lib.hid (show (V.step (by_, false) (d, u)).2 = true from by simp [V.step, h64])
              gi_wp2_with fail
              refine ⟨mf.trans ((KeepsOthers.setCell _ _ _).from _), mp.setCell (by omega) (by omega) 0 _, ⟨m1.other (by omega) 0 _, ?_, ?_, (k4.trans mp.below).setCell (p := ⟨w.heap.size + 1 + 1 + 1, 0, none⟩) (by show w.heap.size ≤ w.heap.size + 1 + 1 + 1; omega) _, HAN.out⟩, by rw [size_setCell]; exact Nat.le_trans k6 mp.below.size⟩
              · rw [HSN.out, HF1.out]; exact m2.other (by omega) 0 _
              · rw [HSN.out, HF2.out]; exact m3.set 0 _
            · by_cases h65 : (65536 : Int) < (u.list.length : Int)
              · have HF2 := Lib.hid (show (V.step (by_, false) (d, u)).2 = true from by simp only [V.step, decide_eq_true h65, Bool.or_true, Bool.true_or])
                gi_wp2_with fail
                refine ⟨mf.trans ((KeepsOthers.setCell _ _ _).from _), mp.setCell (by omega) (by omega) 0 _, ⟨m1.other (by omega) 0 _, ?_, ?_, (k4.trans mp.below).setCell (p := ⟨w.heap.size + 1 + 1 + 1, 0, none⟩) (by show w.heap.size ≤ w.heap.size + 1 + 1 + 1; omega) _, HAN.out⟩, by rw [size_setCell]; exact Nat.le_trans k6 mp.below.size⟩
                · rw [HSN.out, HF1.out]; exact m2.other (by omega) 0 _
                · rw [HSN.out, HF2.out]; exact m3.set 0 _
              · by_cases hbb : (1048576 : Int) < (by_ : Int) + (u.text.size : Int) + (V.sumBy (fun s : ByteArray => s.size) (u.keys.take j) : Nat)
                · have HF2 := Lib.hid (show (V.step (by_, false) (d, u)).2 = true from by simp only [V.step, HE.out]; rw [decide_eq_true (show (1048576 : Int) < ((by_ + u.text.size + V.sumBy (fun s : ByteArray => s.size) (u.keys.take j) : Nat) : Int) by omega), Bool.or_true])
                  gi_wp2_with fail
                  refine ⟨mf.trans ((KeepsOthers.setCell _ _ _).from _), mp.setCell (by omega) (by omega) 0 _, ⟨m1.other (by omega) 0 _, ?_, ?_, (k4.trans mp.below).setCell (p := ⟨w.heap.size + 1 + 1 + 1, 0, none⟩) (by show w.heap.size ≤ w.heap.size + 1 + 1 + 1; omega) _, HAN.out⟩, by rw [size_setCell]; exact Nat.le_trans k6 mp.below.size⟩
                  · rw [HSN.out, HF1.out]; exact m2.other (by omega) 0 _
                  · rw [HSN.out, HF2.out]; exact m3.set 0 _
                · have HF2 := Lib.hid (show (V.step (by_, false) (d, u)).2 = false from by
                    simp only [V.step, HE.out]
                    rw [decide_eq_false (show ¬ (1048576 : Int) < ((by_ + u.text.size + V.sumBy (fun s : ByteArray => s.size) (u.keys.take j) : Nat) : Int) by omega), decide_eq_false h64, decide_eq_false h65]; rfl)
                  gi_wp2_with fail
                  refine ⟨mf.trans ((KeepsOthers.setCell _ _ _).from _), mp.setCell (by omega) (by omega) 0 _, ⟨m1.other (by omega) 0 _, ?_, ?_, (k4.trans mp.below).setCell (p := ⟨w.heap.size + 1 + 1 + 1, 0, none⟩) (by show w.heap.size ≤ w.heap.size + 1 + 1 + 1; omega) _, HAN.out⟩, by rw [size_setCell]; exact Nat.le_trans k6 mp.below.size⟩
                  · rw [HSN.out, HF1.out]; exact m2.other (by omega) 0 _
                  · rw [HSN.out, HF2.out]; exact m3.set 0 _
  case done =>
    rintro D xs W hD hS ⟨⟨k1, k2, k3, k4, k5⟩, k6⟩ hK
    rw [hS] at k2 k3 k5
    have hch : v.check = if (V.sums (v.pre 1)).2 then 3 else 0 := by simp only [V.check, k5, if_true]
    generalize (V.sums (v.pre 1)).2 = ov at k3 hch
    obtain ⟨y1, z1, l1⟩ := k1.facts
    obtain ⟨y3, z3, l3⟩ := k3.facts
    have HC := Lib.hid hch
    have HS := Lib.hid hS
    clear hch k2 hS
    have hD2 : w.heap.size + 1 < D := by omega
    cases ov with
    | true =>
      gi_wp2_with fail
      rw [HC.out]
      exact leave_panic w W D 0 _ rfl k1 k4 hD2 hK
    | false =>
      gi_wp2_with fail
      exact leave_ret w _ D 0 _ _ rfl (k1.set 0 _) (k4.setCell (p := ⟨w.heap.size + 1, 0, none⟩) (by simp) _) hD2 ((Below.heap_setCell _ _ _ _ (by show D ≠ w.heap.size + 1; omega)).trans hK) (by rw [HC.out]; rfl)
  case stop =>
    rintro D c pre W hD hSp ⟨rfl, k2, k3, k4⟩ hK
    have hD2 : w.heap.size + 1 < D := by omega
    have hch : v.check = 110 := by
      have : (v.pre 1).all (fun p => p.2.may) = false := by
        obtain ⟨r, hr⟩ := hSp
        rw [← hr, List.all_append, k4, Bool.false_and]
      simp only [V.check, this]; rfl
    have HC := Lib.hid hch
    clear hch
    gi_wp2_with fail
    exact leave_ret w _ D 110 _ _ rfl k2 k3 hD2 hK (by rw [HC.out])
end Go.Proofs.YtcmahpddjggcaaaGreatDoor
