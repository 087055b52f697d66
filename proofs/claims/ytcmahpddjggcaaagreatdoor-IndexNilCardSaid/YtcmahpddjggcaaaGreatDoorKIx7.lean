/- index.put: a node that has an entry. -/
import Derived.Test.YtcmahpddjggcaaaGreatDoorKIx6
import Derived.Test.YtcmahpddjggcaaaGreatDoorKOwnE
import Derived.Test.YtcmahpddjggcaaaGreatDoorKVal1
namespace Go.Proofs.YtcmahpddjggcaaaGreatDoor
open Go Go.RowKit Go.Maps
set_option maxHeartbeats 4000000
set_option maxRecDepth 100000
/-- The new entry lies in a block of its own. -/
def EntNew (w3 : World) (id : Int) (v : V) (s : Value) (w4 : World) : Prop :=
  ∃ bl cs, s = .pointer (some ⟨bl, 0, none⟩) ∧ Blk w4 bl (.int .i64 id :: cs) 148 ∧ V.ty.rep (fun b => w3.heap.size ≤ b) w4 v cs ∧ Below w3.heap.size w3 w4 ∧ w3.heap.size ≤ bl
theorem below_drew {B : Nat} {a w : World} (h : Below B a w) : Below B a w.drew := below_drewN h 1
theorem below_set {B : Nat} {a w : World} {b : Nat} (h : Below B a w) (hb : B ≤ b) (o : Nat) (v : Value) : Below B a (w.setCell ⟨b, o, none⟩ v) := h.setCell (p := ⟨b, o, none⟩) hb v
theorem zblk (w3 w1 : World) (h : Below (w3.alloc (.cells #[.int .i64 0, .int .i64 0, .bool false, .int .i64 0, .string ⟨#[]⟩, .slice none 0 0, .slice none 0 0] 148)).drew.heap.size (w3.alloc (.cells #[.int .i64 0, .int .i64 0, .bool false, .int .i64 0, .string ⟨#[]⟩, .slice none 0 0, .slice none 0 0] 148)).drew w1) :
    Blk w1 w3.heap.size [.int .i64 0, .int .i64 0, .bool false, .int .i64 0, .string ⟨#[]⟩, .slice none 0 0, .slice none 0 0] 148 := Blk.below (w := (w3.alloc (.cells #[.int .i64 0, .int .i64 0, .bool false, .int .i64 0, .string ⟨#[]⟩, .slice none 0 0, .slice none 0 0] 148)).drew) (Blk.new w3 [.int .i64 0, .int .i64 0, .bool false, .int .i64 0, .string ⟨#[]⟩, .slice none 0 0, .slice none 0 0] 148) h
set_option maxHeartbeats 1000000 in
theorem grown_set {w w' : World} {b : Nat} (h : w.grownBy w' (some b)) (o : Nat) (v : Value) : w.grownBy (w'.setCell ⟨b, o, none⟩ v) (some b) :=
  ⟨h.os, h.tape, h.output, by rw [size_setCell]; exact h.size, fun j hj hne => (Below.heap_setCell w' ⟨b, o, none⟩ v j (fun e => hne (by rw [e]))).trans (h.block j hj hne)⟩
theorem grown_refl (w : World) (r : Option Nat) : w.grownBy w r := ⟨rfl, rfl, rfl, Nat.le_refl _, fun _ _ _ => rfl⟩
theorem entNew_b (w3 w1 : World) (id : Int) (v : V) (u1 u2 u3 u4 u5 u6 : Value) (hz : Blk w1 w3.heap.size [.int .i64 0, .int .i64 0, .bool false, .int .i64 0, .string ⟨#[]⟩, .slice none 0 0, .slice none 0 0] 148) (hb : Below w3.heap.size w3 w1)
    (hr : V.ty.rep (Fresh (w3.alloc (.cells #[.int .i64 0, .int .i64 0, .bool false, .int .i64 0, .string ⟨#[]⟩, .slice none 0 0, .slice none 0 0] 148)).drew) w1 v [u1, u2, u3, u4, u5, u6]) :
    EntNew w3 id v (.pointer (some ⟨w3.heap.size, 0, none⟩)) (((((((w1.setCell ⟨w3.heap.size, 0, none⟩ (.int .i64 id)).setCell ⟨w3.heap.size, 1, none⟩ u1).setCell ⟨w3.heap.size, 2, none⟩ u2).setCell ⟨w3.heap.size, 3, none⟩ u3).setCell ⟨w3.heap.size, 4, none⟩ u4).setCell ⟨w3.heap.size, 5, none⟩ u5).setCell ⟨w3.heap.size, 6, none⟩ u6) := by
  have hg := grown_set (grown_set (grown_set (grown_set (grown_set (grown_set (grown_set (grown_refl w1 (some w3.heap.size)) 0 (.int .i64 id)) 1 u1) 2 u2) 3 u3) 4 u4) 5 u5) 6 u6
  refine ⟨w3.heap.size, [u1, u2, u3, u4, u5, u6], rfl, ((((((hz.set 0 (.int .i64 id)).set 1 u1).set 2 u2).set 3 u3).set 4 u4).set 5 u5).set 6 u6, ?_, ?_, Nat.le_refl _⟩
  · have hsz : ∀ b, Fresh (w3.alloc (.cells #[.int .i64 0, .int .i64 0, .bool false, .int .i64 0, .string ⟨#[]⟩, .slice none 0 0, .slice none 0 0] 148)).drew b → w3.heap.size + 1 ≤ b := fun b hb => by
      have : (w3.alloc (.cells #[.int .i64 0, .int .i64 0, .bool false, .int .i64 0, .string ⟨#[]⟩, .slice none 0 0, .slice none 0 0] 148)).heap.size ≤ b := hb
      simpa using this
    exact V.ty.mono (fun b hb => by have := hsz b hb; omega) (V.ty.grown (fun b hb e => by have := hsz b hb; injection e with e; omega) hg hr)
  · exact below_set (below_set (below_set (below_set (below_set (below_set (below_set hb (Nat.le_refl _) 0 _) (Nat.le_refl _) 1 _) (Nat.le_refl _) 2 _) (Nat.le_refl _) 3 _) (Nat.le_refl _) 4 _) (Nat.le_refl _) 5 _) (Nat.le_refl _) 6 _
theorem put_yes (B N : Nat) (I J : Nat → Prop) (w : World) (p : Nat) (sl : Value) (mb : Nat) (x : IdxD) (n : NodeD) (ncs : List Value) (H : PutIn B N I J w p sl mb x n ncs) (hI : ∀ b, B ≤ b → I b) (hN : N < maxLen)
    (pr : PropD) (k : Nat) (hz : idxOf (fun q : PropD => decide (q.key = x.key)) n.props = (k : Int)) (hk : n.props[k]? = some pr) (hlab : (n.labels.any fun s => decide (s = x.label)) = true) :
    Calls Tryz.prog 90 #[.pointer (some ⟨p, 0, none⟩), .agg ncs.toArray] w (PutQ B (N + 1) I w p sl mb ((x.drop n.id).ins ⟨n.id, pr.val⟩)) := by
  have hsz := NodeD.le H.size
  have HH := Lib.hid H
  obtain ⟨A1, c1, A2, c2, rfl, k1, k2, hr1, hr2⟩ := NodeD.rep_open H.rep
  have hB0 : Below w.heap.size w ((w.alloc (.cells #[.pointer (some ⟨p, 0, none⟩)] 29)).alloc (.cells #[.int .i64 n.id, .slice A1 n.labels.length c1, .slice A2 n.props.length c2] 65)) := below_alloc' (below_alloc' (Below.refl _ _) (Nat.le_refl _) _) (Nat.le_refl _) _
  have HD := Lib.hid (drop_any x n.id B N I _ p sl mb (H.idx.below hB0) H.wf H.dok H.ok (H.tabs.below hB0) (Nat.le_trans H.low hB0.size) (fun w' hb => H.tabsB w' ((hB0.mono H.low).trans hb)))
  have HE := Lib.hid (enters_of Tryz.func188 (by kernel_rfl) rfl)
  have HZ := Lib.hid hz
  have HK := Lib.hid hk
  have HLAB := Lib.hid hlab
  have hkl : k < n.props.length := (List.getElem?_eq_some_iff.1 hk).1
  clear hz hk hlab hB0 hr1 hr2
  go_enter Tryz.func90, Tryz.ntmps90
  go_wp2_with fail
  refine HD.out.mono ?_
  intro e w1 hq
  obtain rfl := hq.1
  obtain ⟨sl1, M⟩ := HH.out.mid hq
  have HM := Lib.hid M
  obtain ⟨y2, z2, l2⟩ := M.b2.facts
  obtain ⟨y3, z3, l3⟩ := M.b3.facts
  have hT1 := H.tabsB _ M.below
  obtain ⟨A1', c1', A2', c2', hcs, k1', k2', hr1, hr2⟩ := NodeD.rep_open M.rep
  obtain ⟨e1, e2, rfl, e3, e4, rfl⟩ : n.id = n.id ∧ A1 = A1' ∧ c1 = c1' ∧ n.id = n.id ∧ A2 = A2' ∧ c2 = c2' := by injection hcs with h1 h2; injection h2 with h2 h3; injection h3 with h3 h4; injection h2 with h5 h6 h7; injection h3 with h8 h9 h10; exact ⟨rfl, h5, h7, rfl, h8, h10⟩
  subst e2 e4
  obtain ⟨hp1, _⟩ := M.idx
  obtain ⟨hnl, hnk⟩ := x.drop_names n.id
  rw [hnl, hnk] at hp1
  obtain ⟨yp, zp, lp⟩ := hp1.facts
  have HI := Lib.hid (indexFunc_prop 188 #[.pointer (some ⟨w.heap.size, 0, none⟩)] HE.out (fun q => decide (q.key = x.key)) n.props _ A2 c2 w1 hr2 hsz.2.1
    (fun q hq W cs hb hr => put1_any q x.key _ W cs w.heap.size p hr ((hb.cell (p := ⟨w.heap.size, 0, none⟩) l2).trans (y2 0)) ((hb.cell (p := ⟨p, 1, none⟩) lp).trans (yp 1))))
  rw [HZ.out] at HI
  have HW := H.low
  have HJ := Lib.hid H.out
  clear hq HD M hr2 H
  go_wp2_with fail
  refine HI.out.mono ?_
  rintro e w2 ⟨rfl, hb2⟩
  have M2 := HM.out.step hb2 HW
  obtain ⟨y2', z2', l2'⟩ := M2.b2.facts
  obtain ⟨y3', z3', l3'⟩ := M2.b3.facts
  obtain ⟨hp2, _⟩ := M2.idx
  rw [hnl, hnk] at hp2
  obtain ⟨yp', zp', lp'⟩ := hp2.facts
  obtain ⟨A3, c3, A4, c4, hcs2, k3, k4, hr3, hr4⟩ := NodeD.rep_open M2.rep
  obtain ⟨e1, e2⟩ : A1 = A3 ∧ c1 = c3 := by injection hcs2 with h1 h2; injection h2 with h2 h3; injection h2 with h5 h6 h7; exact ⟨h5, h7⟩
  subst e1 e2
  have HL := Lib.hid (fun k => contains_str n.labels x.label J A1 c1 (w2.drewN k) (Row.imp (w := w2) (R := Ty.str.rep J w2) (I := J) (fun _ _ h => h) (fun _ hb hl => ⟨hb, hl⟩) (fun _ _ _ => rfl) hr3) hsz.1)
  rw [HLAB.out] at HL
  have HM3 := Lib.hid (fun k => M2.step (below_drewN (Below.refl _ _) k) HW)
  clear HM HI M2 hb2 hr3 hr4 hcs2 hr1 y2 z2 y3 z3 yp zp hcs
  have hz0 : decide ((k : Int) < 0) = false := by simp
  go_wp2_with fail
  go_quiet ((go_at_call 189; exact Calls.quiet_of_same (HL.out _)))
  clear HL y2' z2' l2' y3' z3' l3' hp2 yp' zp' lp' hz0 hp1
  rename_i nq
  go_wp2_with fail
  have M3 := HM3.out nq
  generalize w2.drewN nq = w3 at *
  have HM := Lib.hid M3
  obtain ⟨y3, z3, l3⟩ := M3.b3.facts
  obtain ⟨A3, c3, A4, c4, hcs2, k3, k4, hr3, hr4⟩ := NodeD.rep_open M3.rep
  obtain ⟨e1, e2⟩ : A2 = A4 ∧ c2 = c4 := by injection hcs2 with h1 h2; injection h2 with h2 h3; injection h3 with h8 h9; injection h8 with h5 h6 h7; exact ⟨h5, h7⟩
  subst e1 e2
  obtain ⟨pb, poff, pcs, rfl, hJb, hpl, hpr, hat⟩ := hr4.get HK.out
  obtain ⟨P1, d1, P2, d2, rfl, hv⟩ := PropD.rep_open hpr
  have m1 := y3 0
  have m2 := y3 2
  have HB3 := Lib.hid M3.b3
  have HAT := Lib.hid hat
  have HV := Lib.hid hv
  have HSV := hsz.2.2 pr (List.mem_of_getElem? HK.out)
  have hnI : (n.props.length : Int) ≤ 1073741824 := by have := hsz.2.1; rw [BIG_eq] at this; omega
  have KS := Lib.hid (show ∀ w', Below w3.heap.size w3 w' → w'.cell? ⟨w.heap.size + 1, 0, none⟩ = some (.int .i64 n.id) ∧ w'.cell? ⟨w.heap.size + 1, 2, none⟩ = some (.slice (some ⟨pb, poff, none⟩) n.props.length c2) ∧
      w'.cell? ⟨pb, poff + k * 7 + 1, none⟩ = some (.int .i64 pr.val.kind) ∧ w'.cell? ⟨pb, poff + k * 7 + 2, none⟩ = some (.bool pr.val.bool) ∧ w'.cell? ⟨pb, poff + k * 7 + 3, none⟩ = some (.int .i64 pr.val.int) ∧ w'.cell? ⟨pb, poff + k * 7 + 4, none⟩ = some (.string pr.val.text) ∧ w'.cell? ⟨pb, poff + k * 7 + 5, none⟩ = some (.slice P1 pr.val.keys.length d1) ∧ w'.cell? ⟨pb, poff + k * 7 + 6, none⟩ = some (.slice P2 pr.val.list.length d2) ∧ Below w3.heap.size w3 w' from fun w' hb => by
    have b3 := HB3.out.below hb
    obtain ⟨g0, g1, g2, g3, g4, g5, g6⟩ := (HAT.out.below hpl hb).seven
    exact ⟨b3.rd.1 0, b3.rd.1 2, g1, g2, g3, g4, g5, g6, hb⟩)
  have HC := Lib.hid (show ∀ W, Below w3.heap.size w3 W → Calls Tryz.prog 77 #[.agg #[.int .i64 pr.val.kind, .bool pr.val.bool, .int .i64 pr.val.int, .string pr.val.text, .slice P1 pr.val.keys.length d1, .slice P2 pr.val.list.length d2]] W (fun e w' => ∃ cs, e = .returned (.agg cs.toArray) ∧ V.ty.rep (Fresh W) w' pr.val cs ∧ Below W.heap.size W w' ∧ Below w3.heap.size w3 w') from fun W hW => (copy_any pr.val (by omega) _ W _ (V.ty.below hW HV.out)).mono fun e w' ⟨cs, h1, h2, h3⟩ => ⟨cs, h1, h2, h3, hW.trans (h3.mono hW.size)⟩)
  obtain ⟨m1, m2, m3, m4, m5, m6, m7, m8, m9⟩ := KS.out w3 (Below.refl _ _)
  clear hr3 hr4 hcs2 hat hv hpr m9 z3 y3
  go_cut [5] from 26 to 35 (fun s5 w4 => EntNew w3 n.id pr.val s5 w4)
  case first =>
    refine wp_region_held_drew (S := (fun w' => w'.cell? ⟨w.heap.size + 1, 0, none⟩ = some (.int .i64 n.id) ∧ w'.cell? ⟨w.heap.size + 1, 2, none⟩ = some (.slice (some ⟨pb, poff, none⟩) n.props.length c2) ∧
      w'.cell? ⟨pb, poff + k * 7 + 1, none⟩ = some (.int .i64 pr.val.kind) ∧ w'.cell? ⟨pb, poff + k * 7 + 2, none⟩ = some (.bool pr.val.bool) ∧ w'.cell? ⟨pb, poff + k * 7 + 3, none⟩ = some (.int .i64 pr.val.int) ∧ w'.cell? ⟨pb, poff + k * 7 + 4, none⟩ = some (.string pr.val.text) ∧ w'.cell? ⟨pb, poff + k * 7 + 5, none⟩ = some (.slice P1 pr.val.keys.length d1) ∧ w'.cell? ⟨pb, poff + k * 7 + 6, none⟩ = some (.slice P2 pr.val.list.length d2) ∧ Below w3.heap.size w3 w')) (by kernel_rfl) ?o1 (fun hH0 => ?_)
    case o1 => ((try dsimp only); first | done | ((go_split_ands; refine KS.out _ ?_; repeat (first | with_reducible assumption | with_reducible exact Below.refl _ _ | with_reducible refine below_drew ?_ | with_reducible refine below_alloc' ?_ (Nat.le_refl _) _ | with_reducible refine below_set ?_ (Nat.le_refl _) _ _))))
    refine own_take (v := ?v2) 0 (some 26) rfl rfl (by kernel_rfl) (fun _ _ _ h => h) rfl (by assumption) ?o2 ?_
    case o2 => (intro w hSw; (try dsimp only at hSw); go_simp; try (with_reducible rfl))
    try simp only [Act.put, List.setIfInBounds_toArray, List.set_cons_zero, List.set_cons_succ]
    refine own_take (v := ?v3) 1 (some 27) rfl rfl (by kernel_rfl) (fun _ _ _ h => h) rfl (by assumption) ?o3 ?_
    case o3 => (intro w hSw; (try dsimp only at hSw); go_simp; try (with_reducible rfl))
    try simp only [Act.put, List.setIfInBounds_toArray, List.set_cons_zero, List.set_cons_succ]
    refine own_take (v := ?v4) 2 (some 28) rfl rfl (by kernel_rfl) (fun _ _ _ h => h) rfl (by assumption) ?o4 ?_
    case o4 => (intro w hSw; (try dsimp only at hSw); go_simp; try (with_reducible rfl))
    try simp only [Act.put, List.setIfInBounds_toArray, List.set_cons_zero, List.set_cons_succ]
    refine own_take (v := ?v5) 3 (some 29) rfl rfl (by kernel_rfl) (fun _ _ _ h => h) rfl (by assumption) ?o5 ?_
    case o5 => (intro w hSw; (try dsimp only at hSw); go_simp; try (with_reducible rfl))
    try simp only [Act.put, List.setIfInBounds_toArray, List.set_cons_zero, List.set_cons_succ]
    refine own_take (v := ?v6) 4 (some 30) rfl rfl (by kernel_rfl) (fun _ _ _ h => h) rfl (by assumption) ?o6 ?_
    case o6 => (intro w hSw; (try dsimp only at hSw); go_simp; try (with_reducible rfl))
    try simp only [Act.put, List.setIfInBounds_toArray, List.set_cons_zero, List.set_cons_succ]
    refine own_take (v := ?v7) 5 (some 31) rfl rfl (by kernel_rfl) (fun _ _ _ h => h) rfl (by assumption) ?o7 ?_
    case o7 => (intro w hSw; (try dsimp only at hSw); go_simp; try (with_reducible rfl))
    try simp only [Act.put, List.setIfInBounds_toArray, List.set_cons_zero, List.set_cons_succ]
    refine own_take (v := ?v8) 6 (some 32) rfl rfl (by kernel_rfl) (fun _ _ _ h => h) rfl (by assumption) ?o8 ?_
    case o8 => (intro w hSw; (try dsimp only at hSw); go_simp; try (with_reducible rfl))
    try simp only [Act.put, List.setIfInBounds_toArray, List.set_cons_zero, List.set_cons_succ]
    refine own_take (v := ?v9) 7 (some 33) rfl rfl (by kernel_rfl) (fun _ _ _ h => h) rfl (by assumption) ?o9 ?_
    case o9 => (intro w hSw; (try dsimp only at hSw); go_simp; try (with_reducible rfl))
    try simp only [Act.put, List.setIfInBounds_toArray, List.set_cons_zero, List.set_cons_succ]
    refine own_step2 8 10 (by kernel_rfl) rfl rfl (fun K hK => ?_) (fun K hK => ?_)
    · go_simp
      ((go_at_call 77; refine (HC.out _ ?_).mono ?_; (go_split_ands; assumption); rintro e w1 ⟨cs1, rfl, hv1, hb1, hbw1⟩; obtain ⟨Q1, q1, Q2, q2, rfl, _⟩ := V.rep_open hv1; (first | (have hb1' : Below (w3.alloc (.cells #[.int .i64 0, .int .i64 0, .bool false, .int .i64 0, .string ⟨#[]⟩, .slice none 0 0, .slice none 0 0] 148)).drew.heap.size (w3.alloc (.cells #[.int .i64 0, .int .i64 0, .bool false, .int .i64 0, .string ⟨#[]⟩, .slice none 0 0, .slice none 0 0] 148)).drew w1 := (by with_reducible exact hb1); have HZB := Lib.hid (zblk w3 w1 hb1'); obtain ⟨zu1, zu2, zu3⟩ := HZB.out.facts; clear hb1') | skip)))
      go_wp2_with fail
      refine hK.out _ _ ?o12 (fun hH1 => ?_)
      case o12 => ((try dsimp only); first | done | ((go_split_ands; refine KS.out _ ?_; repeat (first | with_reducible assumption | with_reducible exact Below.refl _ _ | with_reducible refine below_drew ?_ | with_reducible refine below_alloc' ?_ (Nat.le_refl _) _ | with_reducible refine below_set ?_ (Nat.le_refl _) _ _))))
      clear hK K hH0
      try simp only [Act.put, List.setIfInBounds_toArray, List.set_cons_zero, List.set_cons_succ]
      refine own_take (v := ?v13) 9 (some 35) rfl rfl (by kernel_rfl) (fun _ _ _ h => h) rfl (by assumption) ?o13 ?_
      case o13 => (intro w hSw; (try dsimp only at hSw); go_simp; try (with_reducible rfl))
      try simp only [Act.put, List.setIfInBounds_toArray, List.set_cons_zero, List.set_cons_succ]
      refine own_step 10 (by kernel_rfl) rfl (fun K hK => ?_)
      go_simp
      refine hK.out _ _ ?o15 (fun hH2 => ?_)
      case o15 => ((try dsimp only); first | done | ((go_split_ands; refine KS.out _ ?_; repeat (first | with_reducible assumption | with_reducible exact Below.refl _ _ | with_reducible refine below_drew ?_ | with_reducible refine below_alloc' ?_ (Nat.le_refl _) _ | with_reducible refine below_set ?_ (Nat.le_refl _) _ _))))
      clear hK K hH1
      try simp only [Act.put, List.setIfInBounds_toArray, List.set_cons_zero, List.set_cons_succ]
      refine own_step 11 (by kernel_rfl) rfl (fun K hK => ?_)
      go_simp
      refine hK.out _ _ ?o17 (fun hH3 => ?_)
      case o17 => ((try dsimp only); first | done | ((go_split_ands; refine KS.out _ ?_; repeat (first | with_reducible assumption | with_reducible exact Below.refl _ _ | with_reducible refine below_drew ?_ | with_reducible refine below_alloc' ?_ (Nat.le_refl _) _ | with_reducible refine below_set ?_ (Nat.le_refl _) _ _))))
      clear hK K hH2
      try simp only [Act.put, List.setIfInBounds_toArray, List.set_cons_zero, List.set_cons_succ]
      refine wpAnyH_done (by kernel_rfl) ?_ _
      ((go_wp2_with fail; go_meet; case rel => (first | (with_reducible exact entNew_b _ _ _ _ _ _ _ _ _ _ HZB.out hbw1 hv1) | (exact ⟨_, _, rfl, Blk.new _ [.int .i64 n.id, .int .i64 pr.val.kind, .bool pr.val.bool, .int .i64 pr.val.int, .string pr.val.text, .slice Q1 pr.val.keys.length q1, .slice Q2 pr.val.list.length q2] _, V.ty.mono (fun b hb => hb) (V.ty.below (below_alloc' (Below.refl _ _) (Nat.le_refl _) _) hv1), below_alloc' hbw1 (Nat.le_refl _) _, hbw1.size⟩))))
    · go_simp
      refine hK.out _ _ ?o19 (fun hH1 => ?_)
      case o19 => ((try dsimp only); first | done | ((go_split_ands; refine KS.out _ ?_; repeat (first | with_reducible assumption | with_reducible exact Below.refl _ _ | with_reducible refine below_drew ?_ | with_reducible refine below_alloc' ?_ (Nat.le_refl _) _ | with_reducible refine below_set ?_ (Nat.le_refl _) _ _))))
      clear hK K hH0
      try simp only [Act.put, List.setIfInBounds_toArray, List.set_cons_zero, List.set_cons_succ]
      refine own_step 8 (by kernel_rfl) rfl (fun K hK => ?_)
      go_simp
      ((go_at_call 77; refine (HC.out _ ?_).mono ?_; (go_split_ands; assumption); rintro e w1 ⟨cs1, rfl, hv1, hb1, hbw1⟩; obtain ⟨Q1, q1, Q2, q2, rfl, _⟩ := V.rep_open hv1; (first | (have hb1' : Below (w3.alloc (.cells #[.int .i64 0, .int .i64 0, .bool false, .int .i64 0, .string ⟨#[]⟩, .slice none 0 0, .slice none 0 0] 148)).drew.heap.size (w3.alloc (.cells #[.int .i64 0, .int .i64 0, .bool false, .int .i64 0, .string ⟨#[]⟩, .slice none 0 0, .slice none 0 0] 148)).drew w1 := (by with_reducible exact hb1); have HZB := Lib.hid (zblk w3 w1 hb1'); obtain ⟨zu1, zu2, zu3⟩ := HZB.out.facts; clear hb1') | skip)))
      go_wp2_with fail
      refine hK.out _ _ ?o21 (fun hH2 => ?_)
      case o21 => ((try dsimp only); first | done | ((go_split_ands; refine KS.out _ ?_; repeat (first | with_reducible assumption | with_reducible exact Below.refl _ _ | with_reducible refine below_drew ?_ | with_reducible refine below_alloc' ?_ (Nat.le_refl _) _ | with_reducible refine below_set ?_ (Nat.le_refl _) _ _))))
      clear hK K hH1
      try simp only [Act.put, List.setIfInBounds_toArray, List.set_cons_zero, List.set_cons_succ]
      refine own_take (v := ?v22) 9 (some 35) rfl rfl (by kernel_rfl) (fun _ _ _ h => h) rfl (by assumption) ?o22 ?_
      case o22 => (intro w hSw; (try dsimp only at hSw); go_simp; try (with_reducible rfl))
      try simp only [Act.put, List.setIfInBounds_toArray, List.set_cons_zero, List.set_cons_succ]
      refine own_step 11 (by kernel_rfl) rfl (fun K hK => ?_)
      go_simp
      refine hK.out _ _ ?o24 (fun hH3 => ?_)
      case o24 => ((try dsimp only); first | done | ((go_split_ands; refine KS.out _ ?_; repeat (first | with_reducible assumption | with_reducible exact Below.refl _ _ | with_reducible refine below_drew ?_ | with_reducible refine below_alloc' ?_ (Nat.le_refl _) _ | with_reducible refine below_set ?_ (Nat.le_refl _) _ _))))
      clear hK K hH2
      try simp only [Act.put, List.setIfInBounds_toArray, List.set_cons_zero, List.set_cons_succ]
      refine wpAnyH_done (by kernel_rfl) ?_ _
      ((go_wp2_with fail; go_meet; case rel => (first | (with_reducible exact entNew_b _ _ _ _ _ _ _ _ _ _ HZB.out hbw1 hv1) | (exact ⟨_, _, rfl, Blk.new _ [.int .i64 n.id, .int .i64 pr.val.kind, .bool pr.val.bool, .int .i64 pr.val.int, .string pr.val.text, .slice Q1 pr.val.keys.length q1, .slice Q2 pr.val.list.length q2] _, V.ty.mono (fun b hb => hb) (V.ty.below (below_alloc' (Below.refl _ _) (Nat.le_refl _) _) hv1), below_alloc' hbw1 (Nat.le_refl _) _, hbw1.size⟩))))
  case rest =>
    clear m1 m2 m3 m4 m5 m6 m7 m8 KS HC HAT HB3 HV
    have hMf := HM.out.idx.facts
    obtain ⟨bl, ecs, rfl, hbl, hev, hbc, hle⟩ := hcut
    obtain ⟨Q1, q1, Q2, q2, rfl, _⟩ := V.rep_open hev
    have M4 := HM.out.step hbc HW
    obtain ⟨hp4, hBp, hBm, hpm, hps, hms, hO, D, hmap, hMI⟩ := M4.idx
    rw [hnl, hnk] at hp4
    have nbm : bl ≠ mb := by have := hMf.2.1; omega
    have nbp : bl ≠ p := by have := hMf.1; omega
    have nbs := hMf.2.2 bl hle
    obtain ⟨W5, hst, hmap5, hturn⟩ := hmap.drew.store (int_keyed under_i64) under_miv hN (val := .agg #[.int .i64 pr.val.kind, .bool pr.val.bool, .int .i64 pr.val.int, .string pr.val.text, .slice Q1 pr.val.keys.length q1, .slice Q2 pr.val.list.length q2]) (keyOf_int_mk under_i64 HH.out.wf) (show rawR (.agg #[.int .i64 pr.val.kind, .bool pr.val.bool, .int .i64 pr.val.int, .string pr.val.text, .slice Q1 pr.val.keys.length q1, .slice Q2 pr.val.list.length q2]) = some (.held (.agg #[.int .i64 pr.val.kind, .bool pr.val.bool, .int .i64 pr.val.int, .string pr.val.text, .slice Q1 pr.val.keys.length q1, .slice Q2 pr.val.list.length q2]), []) from rfl)
    have G5 : wc.grownBy W5 (some mb) := ⟨hturn.grown.os, hturn.grown.tape, hturn.grown.output, hturn.grown.size, hturn.grown.block⟩
    have b25 := M4.b2.grown G5 (fun e => M4.ne2.2.2 (by injection e))
    have p5 := hp4.grown G5 (fun e => hpm (by injection e))
    have bl5 := hbl.grown G5 (fun e => nbm (by injection e))
    have hO5 := hO.grown (fun b hb e => hb.2.2 (by injection e)) (.inr (fun e => hms e.symm)) G5
    have KS := Lib.hid (show ∀ w' : World, (∀ b, b < wc.heap.size → b ≠ mb → w'.heap[b]? = wc.heap[b]?) → w'.cell? ⟨w.heap.size, 0, none⟩ = some (.pointer (some ⟨p, 0, none⟩)) ∧ w'.cell? ⟨p, 3, none⟩ = some (.map (some mb)) ∧ w'.cell? ⟨w.heap.size + 1, 0, none⟩ = some (.int .i64 n.id) ∧
        w'.cell? ⟨bl, 1, none⟩ = some (.int .i64 pr.val.kind) ∧ w'.cell? ⟨bl, 2, none⟩ = some (.bool pr.val.bool) ∧ w'.cell? ⟨bl, 3, none⟩ = some (.int .i64 pr.val.int) ∧ w'.cell? ⟨bl, 4, none⟩ = some (.string pr.val.text) ∧ w'.cell? ⟨bl, 5, none⟩ = some (.slice Q1 pr.val.keys.length q1) ∧ w'.cell? ⟨bl, 6, none⟩ = some (.slice Q2 pr.val.list.length q2) from fun w' h => by
      have g2 := (M4.b2.same (h _ M4.b2.lt M4.ne2.2.2)).rd.1
      have g3 := (M4.b3.same (h _ M4.b3.lt M4.ne3.2.2)).rd.1
      have gp := (hp4.same (h _ hp4.lt hpm)).rd.1
      have gb := (hbl.same (h _ hbl.lt nbm)).rd.1
      exact ⟨g2 0, gp 3, g3 0, gb 1, gb 2, gb 3, gb 4, gb 5, gb 6⟩)
    have HG5 := Lib.hid G5
    have HM4 := Lib.hid M4
    have HMI := Lib.hid hMI
    have HMAP5 := Lib.hid hmap5
    have HISM := Lib.hid hmap.isMap
    have HKL := Lib.hid (show WideAt.IsKeyLit (Lit.int .i64 n.id) from trivial)
    have lmb := M4.idx.facts.2.1
    clear M4 hMI hmap hmap5 hturn G5 hO hp4 hbl HM M3
    go_wp2_with fail
    refine wp_region_held_drew (S := (fun w' => w'.cell? ⟨w.heap.size, 0, none⟩ = some (.pointer (some ⟨p, 0, none⟩)) ∧ w'.cell? ⟨p, 3, none⟩ = some (.map (some mb)) ∧ w'.cell? ⟨w.heap.size + 1, 0, none⟩ = some (.int .i64 n.id) ∧
        w'.cell? ⟨bl, 1, none⟩ = some (.int .i64 pr.val.kind) ∧ w'.cell? ⟨bl, 2, none⟩ = some (.bool pr.val.bool) ∧ w'.cell? ⟨bl, 3, none⟩ = some (.int .i64 pr.val.int) ∧ w'.cell? ⟨bl, 4, none⟩ = some (.string pr.val.text) ∧ w'.cell? ⟨bl, 5, none⟩ = some (.slice Q1 pr.val.keys.length q1) ∧ w'.cell? ⟨bl, 6, none⟩ = some (.slice Q2 pr.val.list.length q2))) (by kernel_rfl) ?o25 (fun hH0 => ?_)
    case o25 => ((try dsimp only); first | done | ((first | exact KS.out _ (fun b _ _ => rfl) | exact KS.out _ (fun b hb hm => HG5.out.block b hb (fun e => hm (by injection e))))))
    refine own_take (v := ?v26) 0 (some 36) rfl rfl (by kernel_rfl) (fun _ _ _ h => h) rfl (by assumption) ?o26 ?_
    case o26 => (intro w hSw; (try dsimp only at hSw); go_simp; try (with_reducible rfl))
    try simp only [Act.put, List.setIfInBounds_toArray, List.set_cons_zero, List.set_cons_succ]
    refine own_take (v := ?v27) 1 (some 37) rfl rfl (by kernel_rfl) (fun _ _ _ h => h) rfl (by assumption) ?o27 ?_
    case o27 => (intro w hSw; (try dsimp only at hSw); go_simp; try (with_reducible rfl))
    try simp only [Act.put, List.setIfInBounds_toArray, List.set_cons_zero, List.set_cons_succ]
    refine own_take (v := ?v28) 2 (some 38) rfl rfl (by kernel_rfl) (fun _ _ _ h => h) rfl (by assumption) ?o28 ?_
    case o28 => (intro w hSw; (try dsimp only at hSw); go_simp; try (with_reducible rfl))
    try simp only [Act.put, List.setIfInBounds_toArray, List.set_cons_zero, List.set_cons_succ]
    refine own_take (v := ?v29) 3 (some 39) rfl rfl (by kernel_rfl) (fun _ _ _ h => h) rfl (by assumption) ?o29 ?_
    case o29 => (intro w hSw; (try dsimp only at hSw); go_simp; try (with_reducible rfl))
    try simp only [Act.put, List.setIfInBounds_toArray, List.set_cons_zero, List.set_cons_succ]
    refine own_take (v := ?v30) 4 (some 40) rfl rfl (by kernel_rfl) (fun _ _ _ h => h) rfl (by assumption) ?o30 ?_
    case o30 => (intro w hSw; (try dsimp only at hSw); go_simp; try (with_reducible rfl))
    try simp only [Act.put, List.setIfInBounds_toArray, List.set_cons_zero, List.set_cons_succ]
    refine own_take (v := ?v31) 5 (some 41) rfl rfl (by kernel_rfl) (fun _ _ _ h => h) rfl (by assumption) ?o31 ?_
    case o31 => (intro w hSw; (try dsimp only at hSw); go_simp; try (with_reducible rfl))
    try simp only [Act.put, List.setIfInBounds_toArray, List.set_cons_zero, List.set_cons_succ]
    refine own_take (v := ?v32) 6 (some 42) rfl rfl (by kernel_rfl) (fun _ _ _ h => h) rfl (by assumption) ?o32 ?_
    case o32 => (intro w hSw; (try dsimp only at hSw); go_simp; try (with_reducible rfl))
    try simp only [Act.put, List.setIfInBounds_toArray, List.set_cons_zero, List.set_cons_succ]
    refine own_take (v := ?v33) 7 (some 43) rfl rfl (by kernel_rfl) (fun _ _ _ h => h) rfl (by assumption) ?o33 ?_
    case o33 => (intro w hSw; (try dsimp only at hSw); go_simp; try (with_reducible rfl))
    try simp only [Act.put, List.setIfInBounds_toArray, List.set_cons_zero, List.set_cons_succ]
    refine own_step 8 (by kernel_rfl) rfl (fun K hK => ?_)
    go_simp
    refine hK.out _ _ ?o35 (fun hH1 => ?_)
    case o35 => ((try dsimp only); first | done | ((first | exact KS.out _ (fun b _ _ => rfl) | exact KS.out _ (fun b hb hm => HG5.out.block b hb (fun e => hm (by injection e))))))
    clear hK K hH0
    try simp only [Act.put, List.setIfInBounds_toArray, List.set_cons_zero, List.set_cons_succ]
    refine wpAnyH_done (by kernel_rfl) ?_ _
    go_wp2_with fail
    clear KS
    obtain ⟨As, cs5, hsl, hcs5, hrow5⟩ := hO5.slice
    obtain rfl : sl1 = .slice As (x.drop n.id).l.length cs5 := by injection hsl
    obtain ⟨kk, HKK⟩ : ∃ q, Hid (atFrom ⟨n.id, pr.val⟩ (x.drop n.id).l = q) := ⟨_, Lib.hid rfl⟩
    have hkk : kk ≤ (x.drop n.id).l.length := by rw [← HKK.out]; exact srch_le _ _
    have hyo := HH.out.ok.drop n.id
    have hyl := hyo.1
    have hev5 : V.ty.rep (fun b => w3.heap.size ≤ b) W5 pr.val [.int .i64 pr.val.kind, .bool pr.val.bool, .int .i64 pr.val.int, .string pr.val.text, .slice Q1 pr.val.keys.length q1, .slice Q2 pr.val.list.length q2] := V.ty.grown (fun b hb e => by injection e with e; have := hMf.2.1; omega) HG5.out hev
    have hB5 : Below B w W5 := HM4.out.below.grown HG5.out (Nat.le_trans HW HM4.out.below.size) (fun j e => by injection e with e; omega)
    have ltp5 := p5.lt
    have HS := Lib.hid (show ∀ W, Below W5.heap.size W5 W → Calls Tryz.prog 79 #[.slice As (x.drop n.id).l.length cs5, .func (.func 191) #[] #[.pointer (some ⟨bl, 0, none⟩)]] W (fun e w' => e = .returned (.int .i64 kk) ∧ Below W5.heap.size W5 w' ∧ Below W.heap.size W w') from fun W hW => by
      obtain ⟨Aw, cw, hslw, _, hroww⟩ := (hO5.below hW).slice
      obtain ⟨rfl, rfl⟩ : Aw = As ∧ cw = cs5 := by injection hslw with h1; injection h1 with h1 h2 h3; exact ⟨h1.symm, h3.symm⟩
      refine (search_ent 191 #[.pointer (some ⟨bl, 0, none⟩)] (enters_of Tryz.func191 (by kernel_rfl) rfl) (fun o => decide (0 ≤ EntD.before o ⟨n.id, pr.val⟩)) (x.drop n.id).l _ Aw cw W hroww (by omega)
        (fun o ho W' ocs hB' hr' => put2_any o ⟨n.id, pr.val⟩ _ _ W' ocs _ bl hr' (EntD.ty.below hB' (EntD.ty.below hW (EntD.rep_mk hev5))) ((bl5.below hW).below hB') (hyo.2 o ho) HSV (HH.out.tabsB _ (below_call (below_call hB5 (Nat.le_trans HW (Nat.le_trans HM4.out.below.size HG5.out.size)) hW) (Nat.le_trans HW (Nat.le_trans HM4.out.below.size (Nat.le_trans HG5.out.size hW.size))) hB')))).mono ?_
      rintro e w' ⟨rfl, hb⟩
      have := HKK.out
      unfold atFrom at this
      rw [this]
      exact ⟨rfl, hW.trans (hb.mono hW.size), hb⟩)
    have HF := Lib.hid (show ∀ w7 A7 c7, Own EntD.ty 148 B (fun b => I b ∧ b ≠ p ∧ b ≠ mb) w7 (.slice A7 ((x.drop n.id).l.length + 1) c7) ((x.drop n.id).l.take kk ++ ⟨n.id, pr.val⟩ :: (x.drop n.id).l.drop kk) → W5.grownBy w7 (Value.slice As (x.drop n.id).l.length cs5).ownBlock →
        ((Value.slice A7 ((x.drop n.id).l.length + 1) c7).ownBlock = (Value.slice As (x.drop n.id).l.length cs5).ownBlock ∨ ∃ b, (Value.slice A7 ((x.drop n.id).l.length + 1) c7).ownBlock = some b ∧ W5.heap.size ≤ b) →
        PutQ B (N + 1) I w p sl mb ((x.drop n.id).ins ⟨n.id, pr.val⟩) (.returned (.tuple #[])) (w7.setCell ⟨p, 2, none⟩ (.slice A7 ((x.drop n.id).l.length + 1) c7)) from fun w7 A7 c7 hO7 hg7 hown7 => by
      have p7 := p5.grown hg7 hps
      have hset : w7.grownBy (w7.setCell ⟨p, 2, none⟩ (.slice A7 ((x.drop n.id).l.length + 1) c7)) (some p) := grown_set (grown_refl w7 (some p)) 2 _
      have hl5 := HMAP5.out.lt
      have hpv : some p ≠ (Value.slice A7 ((x.drop n.id).l.length + 1) c7).ownBlock := by
        rcases hown7 with h | ⟨b, h, hb⟩
        · rw [h]; exact hps
        · rw [h]; intro e; injection e with e; omega
      have hmv : some mb ≠ (Value.slice A7 ((x.drop n.id).l.length + 1) c7).ownBlock := by
        rcases hown7 with h | ⟨b, h, hb⟩
        · rw [h]; exact hms
        · rw [h]; intro e; injection e with e; omega
      have hlow : B ≤ W5.heap.size := Nat.le_trans HW (Nat.le_trans HM4.out.below.size HG5.out.size)
      have hln : ((x.drop n.id).l.take kk ++ (⟨n.id, pr.val⟩ : EntD) :: (x.drop n.id).l.drop kk) = ((x.drop n.id).ins ⟨n.id, pr.val⟩).l := by unfold IdxD.ins; rw [HKK.out]
      -- a value's cells, moved to the last world
      have mv : ∀ (I0 : Nat → Prop) (v : V) (cs : List Value), (∀ b, I0 b → some b ≠ (Value.slice As (x.drop n.id).l.length cs5).ownBlock ∧ b ≠ mb ∧ b ≠ p) → V.ty.rep I0 wc v cs → V.ty.rep (fun b => I0 b ∧ b < W5.heap.size) (w7.setCell ⟨p, 2, none⟩ (.slice A7 ((x.drop n.id).l.length + 1) c7)) v cs := fun I0 v cs h0 hr =>
        V.ty.grown (row := some p) (fun b hb e => (h0 b hb.1).2.2 (by injection e)) hset (V.ty.grown (fun b hb => (h0 b hb.1).1) hg7 (V.ty.lt (V.ty.grown (fun b hb e => (h0 b hb).2.1 (by injection e)) HG5.out hr)))
      have hnv : ∀ b, b < W5.heap.size → some b ≠ (Value.slice As (x.drop n.id).l.length cs5).ownBlock → some b ≠ (Value.slice A7 ((x.drop n.id).l.length + 1) c7).ownBlock := fun b hb hne => by
        rcases hown7 with h | ⟨b', h, hb'⟩
        · rw [h]; exact hne
        · rw [h]; intro e; injection e with e; omega
      refine ⟨rfl, ?_, ?_, .slice A7 ((x.drop n.id).l.length + 1) c7, ⟨?_, hBp, hBm, hpm, hpv, hmv, ?_, _, (HMAP5.out.kept hg7 hms).kept hset (fun e => hpm (by injection e with e; exact e.symm)), ?_⟩, ?_⟩
      · exact (hB5.grown hg7 hlow (fun j e => (hO5.block e).1)).setCell (p := ⟨p, 2, none⟩) hBp _
      · intro b hb h1 h2 h3
        have s1 := HM4.out.size
        have s2 := HG5.out.size
        have hne : some b ≠ (Value.slice As (x.drop n.id).l.length cs5).ownBlock := by
          rcases HM4.out.own with h | ⟨b', h, hb'⟩
          · rw [h]; exact h3
          · rw [h]; intro e; injection e with e; omega
        exact (Below.heap_setCell w7 ⟨p, 2, none⟩ _ b h1).trans ((hg7.block b (by omega) hne).trans ((HG5.out.block b (by omega) (fun e => h2 (by injection e))).trans (HM4.out.keep b hb h1 h2 h3)))
      · show Blk _ p [.string (x.drop n.id).label, .string (x.drop n.id).key, _, _] _
        rw [hnl, hnk]
        exact p7.set 2 _
      · rw [← hln]
        exact hO7.grown (row := some p) (fun b hb e => hb.2.1 (by injection e)) (.inr (fun e => hpv e.symm)) hset
      · intro i hi
        rw [← hln, show ((x.drop n.id).l.take kk ++ (⟨n.id, pr.val⟩ : EntD) :: (x.drop n.id).l.drop kk).find? (fun e => e.id == i) = if i = n.id then some (⟨n.id, pr.val⟩ : EntD) else (x.drop n.id).l.find? (fun e => e.id == i) from find_ins (e := ⟨n.id, pr.val⟩) kk (IdxD.drop_gone HH.out.dok) i]
        by_cases hin : i = n.id
        · subst hin
          rw [if_pos rfl]
          refine ⟨has_put_same HISM.out HKL.out _, [.int .i64 pr.val.kind, .bool pr.val.bool, .int .i64 pr.val.int, .string pr.val.text, .slice Q1 pr.val.keys.length q1, .slice Q2 pr.val.list.length q2], fun z => atKey_put_same HISM.out HKL.out _ z, ?_⟩
          refine V.ty.mono (fun b hb => ?_) (mv (fun b => w3.heap.size ≤ b) pr.val [.int .i64 pr.val.kind, .bool pr.val.bool, .int .i64 pr.val.int, .string pr.val.text, .slice Q1 pr.val.keys.length q1, .slice Q2 pr.val.list.length q2] (fun b hb => ⟨hMf.2.2 b hb, by have := hMf.2.1; omega, by have := hMf.1; omega⟩) hev)
          have hb1 := hb.1
          exact ⟨⟨hI b (Nat.le_trans HW (by omega)), by have := hMf.1; omega, by have := hMf.2.1; omega⟩, hnv b hb.2 (hMf.2.2 b hb1)⟩
        · rw [if_neg hin]
          have hne : (Lit.int .i64 i) ≠ Lit.int .i64 n.id := fun e => hin (by injection e)
          have h3 := HMI.out i hi
          split at h3
          · rename_i e he
            obtain ⟨g1, gcs, g2, g3⟩ := h3
            refine ⟨(has_put_other hne _).trans g1, gcs, fun z => (atKey_put_other hne _ z).trans (g2 z), ?_⟩
            exact V.ty.mono (fun b hb => ⟨hb.1.1, hnv b hb.2 hb.1.2⟩) (mv _ _ _ (fun b hb => ⟨hb.2, hb.1.2.2, hb.1.2.1⟩) g3)
          · exact (has_put_other hne _).trans h3
      · rcases hown7 with h | ⟨b, h, hb⟩
        · rcases HM4.out.own with h' | ⟨b, h', hb⟩
          · exact .inl (h.trans h')
          · exact .inr ⟨b, h.trans h', hb⟩
        · exact .inr ⟨b, h, by have s1 := HM4.out.size; have s2 := HG5.out.size; omega⟩)
    have HI2 := Lib.hid (show ∀ W vb, Below W5.heap.size W5 W → Blk W vb [.int .i64 n.id, .int .i64 pr.val.kind, .bool pr.val.bool, .int .i64 pr.val.int, .string pr.val.text, .slice Q1 pr.val.keys.length q1, .slice Q2 pr.val.list.length q2] 148 → W5.heap.size ≤ vb → Calls Tryz.prog 190 #[.slice As (x.drop n.id).l.length cs5, .int .i64 kk, .slice (some ⟨vb, 0, none⟩) 1 1] W (fun e w' => ∃ A7 c7, e = .returned (.slice A7 ((x.drop n.id).l.length + 1) c7) ∧ Hid (PutQ B (N + 1) I w p sl mb ((x.drop n.id).ins ⟨n.id, pr.val⟩) (.returned (.tuple #[])) (w'.setCell ⟨p, 2, none⟩ (.slice A7 ((x.drop n.id).l.length + 1) c7))) ∧ (w'.cell? ⟨w.heap.size, 0, none⟩ = some (.pointer (some ⟨p, 0, none⟩)) ∧ w'.cell? ⟨p, 2, none⟩ = some (.slice As (x.drop n.id).l.length cs5) ∧ w'.cell? ⟨bl, 0, none⟩ = some (.int .i64 n.id) ∧ w'.cell? ⟨bl, 1, none⟩ = some (.int .i64 pr.val.kind) ∧ w'.cell? ⟨bl, 2, none⟩ = some (.bool pr.val.bool) ∧ w'.cell? ⟨bl, 3, none⟩ = some (.int .i64 pr.val.int) ∧ w'.cell? ⟨bl, 4, none⟩ = some (.string pr.val.text) ∧ w'.cell? ⟨bl, 5, none⟩ = some (.slice Q1 pr.val.keys.length q1) ∧ w'.cell? ⟨bl, 6, none⟩ = some (.slice Q2 pr.val.list.length q2) ∧ w'.frozen? ⟨p, 2, none⟩ = false)) from fun W vb hW hvb hle5 => by
      refine (insert_ent (.slice As (x.drop n.id).l.length cs5) (x.drop n.id).l B (fun b => I b ∧ b ≠ p ∧ b ≠ mb) W kk ⟨n.id, pr.val⟩ _ vb hkk (by omega) (hO5.below hW) hvb (fun e => by have := (hO5.block e.symm).2; omega)
        (EntD.ty.below hW (EntD.ty.mono (fun b (hb : w3.heap.size ≤ b) => ⟨⟨hI b (Nat.le_trans HW (by omega)), by have := hMf.1; omega, by have := hMf.2.1; omega⟩, hMf.2.2 b hb⟩) (EntD.rep_mk (p := ⟨n.id, pr.val⟩) hev5)))
        (Nat.le_trans HW (Nat.le_trans HM4.out.below.size (Nat.le_trans HG5.out.size hW.size)))).mono ?_
      rintro e w7 ⟨v1, rfl, hO7, hg7, hown7⟩
      obtain ⟨A7, c7, hv⟩ := hO7.form
      have hlen : ((x.drop n.id).l.take kk ++ (⟨n.id, pr.val⟩ : EntD) :: (x.drop n.id).l.drop kk).length = (x.drop n.id).l.length + 1 := by rw [List.length_append, List.length_take, List.length_cons, List.length_drop]; omega
      rw [hlen] at hv
      subst hv
      have hgw : W5.grownBy w7 (Value.slice As (x.drop n.id).l.length cs5).ownBlock := ⟨hg7.os.trans hW.os, hg7.tape.trans hW.tape, hg7.output.trans hW.output, Nat.le_trans hW.size hg7.size, fun j hj hne => (hg7.block j (Nat.lt_of_lt_of_le hj hW.size) hne).trans (hW.block j hj)⟩
      have g2 := (b25.grown hgw HM4.out.ne2.1).rd.1
      have gp := (p5.grown hgw hps).rd
      have gb := (bl5.grown hgw nbs).rd.1
      exact ⟨A7, c7, rfl, HF.out w7 A7 c7 hO7 hgw (hown7.imp id fun h => ⟨_, h, hW.size⟩), g2 0, gp.1 2, gb 0, gb 1, gb 2, gb 3, gb 4, gb 5, gb 6, gp.2 2⟩)
    have KS6 := Lib.hid (show ∀ w', Below W5.heap.size W5 w' → (w'.cell? ⟨w.heap.size, 0, none⟩ = some (.pointer (some ⟨p, 0, none⟩)) ∧ w'.cell? ⟨p, 2, none⟩ = some (.slice As (x.drop n.id).l.length cs5) ∧ w'.cell? ⟨bl, 0, none⟩ = some (.int .i64 n.id) ∧ w'.cell? ⟨bl, 1, none⟩ = some (.int .i64 pr.val.kind) ∧ w'.cell? ⟨bl, 2, none⟩ = some (.bool pr.val.bool) ∧ w'.cell? ⟨bl, 3, none⟩ = some (.int .i64 pr.val.int) ∧ w'.cell? ⟨bl, 4, none⟩ = some (.string pr.val.text) ∧ w'.cell? ⟨bl, 5, none⟩ = some (.slice Q1 pr.val.keys.length q1) ∧ w'.cell? ⟨bl, 6, none⟩ = some (.slice Q2 pr.val.list.length q2) ∧ w'.frozen? ⟨p, 2, none⟩ = false) from fun w' hb => by
      have g2 := (b25.below hb).rd.1
      have gp := (p5.below hb).rd
      have gb := (bl5.below hb).rd.1
      exact ⟨g2 0, gp.1 2, gb 0, gb 1, gb 2, gb 3, gb 4, gb 5, gb 6, gp.2 2⟩)
    obtain ⟨m1, m2, m3, m4, m5, m6, m7, m8, m9, m10⟩ := KS6.out W5 (Below.refl _ _)
    clear hO5 hrow5 hsl hev5 hev
    refine end_region (S := fun w' => (w'.cell? ⟨w.heap.size, 0, none⟩ = some (.pointer (some ⟨p, 0, none⟩)) ∧ w'.cell? ⟨p, 2, none⟩ = some (.slice As (x.drop n.id).l.length cs5) ∧ w'.cell? ⟨bl, 0, none⟩ = some (.int .i64 n.id) ∧ w'.cell? ⟨bl, 1, none⟩ = some (.int .i64 pr.val.kind) ∧ w'.cell? ⟨bl, 2, none⟩ = some (.bool pr.val.bool) ∧ w'.cell? ⟨bl, 3, none⟩ = some (.int .i64 pr.val.int) ∧ w'.cell? ⟨bl, 4, none⟩ = some (.string pr.val.text) ∧ w'.cell? ⟨bl, 5, none⟩ = some (.slice Q1 pr.val.keys.length q1) ∧ w'.cell? ⟨bl, 6, none⟩ = some (.slice Q2 pr.val.list.length q2) ∧ w'.frozen? ⟨p, 2, none⟩ = false)) 16 (by kernel_rfl) ?s0 (fun hH0 => ?_)
    case s0 => exact KS6.out _ (below_drew (Below.refl _ _))
    refine end_take (v := ?xv0) 0 (some 44) rfl rfl (by kernel_rfl) (fun _ _ _ h => h) rfl (by assumption) ?xo0 ?_
    case xo0 => (intro w hSw; (try dsimp only at hSw); go_simp; try (with_reducible rfl))
    try simp only [Act.put, List.setIfInBounds_toArray, List.set_cons_zero, List.set_cons_succ]
    refine end_take (v := ?xv1) 1 (some 45) rfl rfl (by kernel_rfl) (fun _ _ _ h => h) rfl (by assumption) ?xo1 ?_
    case xo1 => (intro w hSw; (try dsimp only at hSw); go_simp; try (with_reducible rfl))
    try simp only [Act.put, List.setIfInBounds_toArray, List.set_cons_zero, List.set_cons_succ]
    refine end_take (v := ?xv2) 2 (some 46) rfl rfl (by kernel_rfl) (fun _ _ _ h => h) rfl (by assumption) ?xo2 ?_
    case xo2 => (intro w hSw; (try dsimp only at hSw); go_simp; try (with_reducible rfl))
    try simp only [Act.put, List.setIfInBounds_toArray, List.set_cons_zero, List.set_cons_succ]
    refine end_take (v := ?xv3) 3 (some 47) rfl rfl (by kernel_rfl) (fun _ _ _ h => h) rfl (by assumption) ?xo3 ?_
    case xo3 => (intro w hSw; (try dsimp only at hSw); go_simp; try (with_reducible rfl))
    try simp only [Act.put, List.setIfInBounds_toArray, List.set_cons_zero, List.set_cons_succ]
    refine end_take (v := ?xv4) 4 (some 48) rfl rfl (by kernel_rfl) (fun _ _ _ h => h) rfl (by assumption) ?xo4 ?_
    case xo4 => (intro w hSw; (try dsimp only at hSw); go_simp; try (with_reducible rfl))
    try simp only [Act.put, List.setIfInBounds_toArray, List.set_cons_zero, List.set_cons_succ]
    refine end_take (v := ?xv5) 5 (some 49) rfl rfl (by kernel_rfl) (fun _ _ _ h => h) rfl (by assumption) ?xo5 ?_
    case xo5 => (intro w hSw; (try dsimp only at hSw); go_simp; try (with_reducible rfl))
    try simp only [Act.put, List.setIfInBounds_toArray, List.set_cons_zero, List.set_cons_succ]
    refine end_take (v := ?xv6) 6 (some 50) rfl rfl (by kernel_rfl) (fun _ _ _ h => h) rfl (by assumption) ?xo6 ?_
    case xo6 => (intro w hSw; (try dsimp only at hSw); go_simp; try (with_reducible rfl))
    try simp only [Act.put, List.setIfInBounds_toArray, List.set_cons_zero, List.set_cons_succ]
    refine end_take (v := ?xv7) 7 (some 51) rfl rfl (by kernel_rfl) (fun _ _ _ h => h) rfl (by assumption) ?xo7 ?_
    case xo7 => (intro w hSw; (try dsimp only at hSw); go_simp; try (with_reducible rfl))
    try simp only [Act.put, List.setIfInBounds_toArray, List.set_cons_zero, List.set_cons_succ]
    refine end_take (v := ?xv8) 8 (some 52) rfl rfl (by kernel_rfl) (fun _ _ _ h => h) rfl (by assumption) ?xo8 ?_
    case xo8 => (intro w hSw; (try dsimp only at hSw); go_simp; try (with_reducible rfl))
    try simp only [Act.put, List.setIfInBounds_toArray, List.set_cons_zero, List.set_cons_succ]
    refine end_take (v := ?xv9) 9 (some 53) rfl rfl (by kernel_rfl) (fun _ _ _ h => h) rfl (by assumption) ?xo9 ?_
    case xo9 => (intro w hSw; (try dsimp only at hSw); go_simp; try (with_reducible rfl))
    try simp only [Act.put, List.setIfInBounds_toArray, List.set_cons_zero, List.set_cons_succ]
    refine end_take (v := ?xv11) 11 (some 55) rfl rfl (by kernel_rfl) (fun _ _ _ h => h) rfl (by assumption) ?xo11 ?_
    case xo11 => (intro w hSw; (try dsimp only at hSw); go_simp; try (with_reducible rfl))
    try simp only [Act.put, List.setIfInBounds_toArray, List.set_cons_zero, List.set_cons_succ]
    refine end_step2 10 12 (by kernel_rfl) rfl rfl (fun K hK => ?_) (fun K hK => ?_)
    · go_simp
      go_at_call 79
      refine (HS.out _ (below_drew (Below.refl _ _))).mono ?_
      rintro e w6 ⟨rfl, hb6, hb6'⟩
      go_wp2_with fail
      refine hK.out _ _ (KS6.out _ hb6) (fun hH1 => ?_)
      clear hK K hH0
      try simp only [Act.put, List.setIfInBounds_toArray, List.set_cons_zero, List.set_cons_succ]
      refine end_step 12 (by kernel_rfl) rfl (fun K hK => ?_)
      go_simp
      refine hK.out _ _ (KS6.out _ (below_alloc' hb6 (Nat.le_refl _) _)) (fun hH2 => ?_)
      clear hK K hH1
      try simp only [Act.put, List.setIfInBounds_toArray, List.set_cons_zero, List.set_cons_succ]
      refine end_step 13 (by kernel_rfl) rfl (fun K hK => ?_)
      go_simp
      go_at_call 190
      refine (HI2.out _ _ (below_alloc' hb6 (Nat.le_refl _) _) (Blk.new w6 [.int .i64 n.id, .int .i64 pr.val.kind, .bool pr.val.bool, .int .i64 pr.val.int, .string pr.val.text, .slice Q1 pr.val.keys.length q1, .slice Q2 pr.val.list.length q2] _) hb6.size).mono ?_
      rintro e w7 ⟨A7, c7, rfl, hR, hS7⟩
      go_wp2_with fail
      refine hK.out _ _ hS7 (fun hH3 => ?_)
      clear hK K hH2
      try simp only [Act.put, List.setIfInBounds_toArray, List.set_cons_zero, List.set_cons_succ]
      obtain ⟨n1, n2, n3, n4, n5, n6, n7, n8, n9, n10⟩ := hS7
      refine end_step 14 (by kernel_rfl) rfl (fun K hK => ?_)
      go_simp
      refine hK.out _ _ ⟨n1, n2, n3, n4, n5, n6, n7, n8, n9, n10⟩ (fun hH4 => ?_)
      clear hK K hH3
      try simp only [Act.put, List.setIfInBounds_toArray, List.set_cons_zero, List.set_cons_succ]
      refine end_step 15 (by kernel_rfl) rfl (fun K hK => ?_)
      go_simp
      refine hK.out _ _ ⟨n1, n2, n3, n4, n5, n6, n7, n8, n9, n10⟩ (fun hH5 => ?_)
      clear hK K hH4
      try simp only [Act.put, List.setIfInBounds_toArray, List.set_cons_zero, List.set_cons_succ]
      refine end_last (by kernel_rfl) rfl (by kernel_rfl) (fun K hK => ?_)
      go_simp
      refine hK.out _ _ ?_
      clear hK K
      go_wp2_with fail
      exact bodyPost_end (v := .tuple #[]) (by simp [results, Tryz.results90, go_sem]) rfl hR.out
    · go_simp
      refine hK.out _ _ (KS6.out _ (below_drew (below_alloc' (Below.refl _ _) (Nat.le_refl _) _))) (fun hH1 => ?_)
      clear hK K hH0
      try simp only [Act.put, List.setIfInBounds_toArray, List.set_cons_zero, List.set_cons_succ]
      refine end_step 10 (by kernel_rfl) rfl (fun K hK => ?_)
      go_simp
      go_at_call 79
      refine (HS.out _ (below_drew (below_alloc' (Below.refl _ _) (Nat.le_refl _) _))).mono ?_
      rintro e w6 ⟨rfl, hb6, hb6'⟩
      have HBW := Lib.hid (show Blk w6 W5.heap.size [.int .i64 n.id, .int .i64 pr.val.kind, .bool pr.val.bool, .int .i64 pr.val.int, .string pr.val.text, .slice Q1 pr.val.keys.length q1, .slice Q2 pr.val.list.length q2] 148 from Blk.below (w := (W5.alloc (.cells ([.int .i64 n.id, .int .i64 pr.val.kind, .bool pr.val.bool, .int .i64 pr.val.int, .string pr.val.text, .slice Q1 pr.val.keys.length q1, .slice Q2 pr.val.list.length q2] : List Value).toArray 148)).drew) (Blk.new W5 [.int .i64 n.id, .int .i64 pr.val.kind, .bool pr.val.bool, .int .i64 pr.val.int, .string pr.val.text, .slice Q1 pr.val.keys.length q1, .slice Q2 pr.val.list.length q2] 148) hb6')
      go_wp2_with fail
      refine hK.out _ _ (KS6.out _ hb6) (fun hH2 => ?_)
      clear hK K hH1
      try simp only [Act.put, List.setIfInBounds_toArray, List.set_cons_zero, List.set_cons_succ]
      refine end_step 13 (by kernel_rfl) rfl (fun K hK => ?_)
      go_simp
      go_at_call 190
      refine (HI2.out _ _ hb6 HBW.out (Nat.le_refl _)).mono ?_
      rintro e w7 ⟨A7, c7, rfl, hR, hS7⟩
      go_wp2_with fail
      refine hK.out _ _ hS7 (fun hH3 => ?_)
      clear hK K hH2
      try simp only [Act.put, List.setIfInBounds_toArray, List.set_cons_zero, List.set_cons_succ]
      obtain ⟨n1, n2, n3, n4, n5, n6, n7, n8, n9, n10⟩ := hS7
      refine end_step 14 (by kernel_rfl) rfl (fun K hK => ?_)
      go_simp
      refine hK.out _ _ ⟨n1, n2, n3, n4, n5, n6, n7, n8, n9, n10⟩ (fun hH4 => ?_)
      clear hK K hH3
      try simp only [Act.put, List.setIfInBounds_toArray, List.set_cons_zero, List.set_cons_succ]
      refine end_step 15 (by kernel_rfl) rfl (fun K hK => ?_)
      go_simp
      refine hK.out _ _ ⟨n1, n2, n3, n4, n5, n6, n7, n8, n9, n10⟩ (fun hH5 => ?_)
      clear hK K hH4
      try simp only [Act.put, List.setIfInBounds_toArray, List.set_cons_zero, List.set_cons_succ]
      refine end_last (by kernel_rfl) rfl (by kernel_rfl) (fun K hK => ?_)
      go_simp
      refine hK.out _ _ ?_
      clear hK K
      go_wp2_with fail
      exact bodyPost_end (v := .tuple #[]) (by simp [results, Tryz.results90, go_sem]) rfl hR.out
end Go.Proofs.YtcmahpddjggcaaaGreatDoor
