/- index.Entries at an index that is there: a function is handed back; index.may and Change's first closure. -/
import Derived.Test.YtcmahpddjggcaaaGreatDoorKIx12
import Derived.Test.YtcmahpddjggcaaaGreatDoorKClone2
import Derived.Test.YtcmahpddjggcaaaGreatDoorKIx11
import Derived.Test.YtcmahpddjggcaaaGreatDoorKOwnE
namespace Go.Proofs.YtcmahpddjggcaaaGreatDoor
open Go Go.RowKit Go.Maps
set_option maxHeartbeats 4000000
set_option maxRecDepth 100000
theorem entries_any (B N : Nat) (I : Nat → Prop) (w : World) (p : Nat) (sl : Value) (mb : Nat) (x : IdxD) (h : IdxIn B N I w p sl mb x) (hxo : IdxOk x) :
    Calls Tryz.prog 28 #[.pointer (some ⟨p, 0, none⟩)] w fun e w' => (∃ b v B', e = .returned (.func (.func 95) #[] #[.pointer (some ⟨b, 0, none⟩)]) ∧ Blk w' b [v] 30 ∧ w.heap.size ≤ B' ∧ Own EntD.ty 148 B' (fun b => True ∧ b < w.heap.size) w' v x.l) ∧ Below w.heap.size w w' := by
  obtain ⟨As, cs, rfl, hcs, hrow⟩ := h.row
  have hB0 := below_alloc' (Below.refl w.heap.size w) (Nat.le_refl _) (.cells #[.slice none 0 0] 30)
  have hbn := Blk.new w [.slice none 0 0] 30
  have hp0 := h.1.below hB0
  have HTh := Lib.hid (there_any p _ _ _ _ _ hp0)
  obtain ⟨y, z, l⟩ := hp0.facts
  have HC := Lib.hid (clone_ent _ _ x.l As cs (w.alloc (.cells #[.slice none 0 0] 30)) (Row.at EntD.ty hrow hB0) (by have := hxo.1; omega))
  have HB := Lib.hid hB0
  have HBN := Lib.hid hbn
  clear h hxo hp0 hbn hrow hB0
  go_enter Tryz.func28, Tryz.ntmps28
  go_wp2_with fail
  refine HTh.out.mono ?_
  rintro e w1 ⟨rfl, rfl⟩
  go_wp2_with fail
  refine HC.out.mono ?_
  rintro e w2 ⟨v, rfl, hO, hb2⟩
  obtain ⟨y2, z2, l2⟩ := (HBN.out.below hb2).facts
  have HO := Lib.hid hO
  obtain ⟨A2, c2, rfl⟩ := hO.form
  have HB2 := Lib.hid (HBN.out.below hb2)
  clear hO y z
  go_wp2_with fail
  go_ret
  have hset : w2.grownBy (w2.setCell ⟨w.heap.size, 0, none⟩ (.slice A2 x.l.length c2)) (some w.heap.size) := grown_set (grown_refl w2 (some w.heap.size)) 0 _
  refine ⟨⟨w.heap.size, _, _, rfl, HB2.out.set 0 _, HB.out.size, HO.out.grown (fun b hb e => by injection e with e; have := hb.2; omega) (.inr (fun e => by have := (HO.out.block e).1; simp at this; omega)) hset⟩, below_set (below_call HB.out HB.out.size hb2) (Nat.le_refl _) 0 _⟩
/-- A graph of one node. -/
def oneNode (n : NodeD) : GraphD := ⟨[n], [], n.id + 1, 0⟩
/-- May a change be? -/
def ChangeD.may (c : ChangeD) : Bool := if c.kind = 0 then decide (0 ≤ c.node.id) && decide (c.node.id < 4611686018427387904) && (oneNode c.node).check == 0 else c.kind == 1 || c.kind == 2 || c.kind == 3 || c.kind == 4
theorem may_any' (c : ChangeD) (I : Nat → Prop) (w : World) (cs : List Value) (h : ChangeD.ty.rep I w c cs) (hs : c.node.size ≤ BIG) (hT : Tabs w) :
    Calls Tryz.prog 89 #[.agg cs.toArray] w fun e w' => e = .returned (.bool c.may) ∧ Below w.heap.size w w' := by
  obtain ⟨A1, c1, A2, c2, A3, c3, rfl, hn, hr⟩ := ChangeD.rep_cells h
  have hB0 := below_alloc' (Below.refl w.heap.size w) (Nat.le_refl _) (.cells #[.int .i64 c.kind, .int .i64 c.id, .int .i64 c.other, .int .i64 c.node.id, .slice A1 c.node.labels.length c1, .slice A2 c.node.props.length c2, .int .i64 c.rel.id, .int .i64 c.rel.src, .int .i64 c.rel.dst, .string c.rel.type, .slice A3 c.rel.props.length c3] 69)
  obtain ⟨m, hm⟩ : ∃ m, c.may = m := ⟨_, rfl⟩
  rw [hm]
  unfold ChangeD.may at hm
  by_cases h0 : c.kind = 0
  · rw [if_pos h0] at hm
    rw [h0] at hB0 ⊢
    have hB1 := below_alloc' hB0 (Nat.le_refl _) (.cells #[.int .i64 c.node.id, .slice A1 c.node.labels.length c1, .slice A2 c.node.props.length c2] 65)
    have hbn := Blk.new (w.alloc (.cells #[.int .i64 0, .int .i64 c.id, .int .i64 c.other, .int .i64 c.node.id, .slice A1 c.node.labels.length c1, .slice A2 c.node.props.length c2, .int .i64 c.rel.id, .int .i64 c.rel.src, .int .i64 c.rel.dst, .string c.rel.type, .slice A3 c.rel.props.length c3] 69)) [.int .i64 c.node.id, .slice A1 c.node.labels.length c1, .slice A2 c.node.props.length c2] 65
    rw [show (w.alloc (.cells #[.int .i64 0, .int .i64 c.id, .int .i64 c.other, .int .i64 c.node.id, .slice A1 c.node.labels.length c1, .slice A2 c.node.props.length c2, .int .i64 c.rel.id, .int .i64 c.rel.src, .int .i64 c.rel.dst, .string c.rel.type, .slice A3 c.rel.props.length c3] 69)).heap.size = w.heap.size + 1 by simp] at hbn
    have hn1 := NodeD.ty.below hB1 hn
    have hrow : Row 3 (NodeD.ty.rep (fun _ => True) ((w.alloc (.cells #[.int .i64 0, .int .i64 c.id, .int .i64 c.other, .int .i64 c.node.id, .slice A1 c.node.labels.length c1, .slice A2 c.node.props.length c2, .int .i64 c.rel.id, .int .i64 c.rel.src, .int .i64 c.rel.dst, .string c.rel.type, .slice A3 c.rel.props.length c3] 69)).alloc (.cells #[.int .i64 c.node.id, .slice A1 c.node.labels.length c1, .slice A2 c.node.props.length c2] 65))) (fun _ => True) ((w.alloc (.cells #[.int .i64 0, .int .i64 c.id, .int .i64 c.other, .int .i64 c.node.id, .slice A1 c.node.labels.length c1, .slice A2 c.node.props.length c2, .int .i64 c.rel.id, .int .i64 c.rel.src, .int .i64 c.rel.dst, .string c.rel.type, .slice A3 c.rel.props.length c3] 69)).alloc (.cells #[.int .i64 c.node.id, .slice A1 c.node.labels.length c1, .slice A2 c.node.props.length c2] 65)) (some ⟨w.heap.size + 1, 0, none⟩) [c.node] := by
      refine .inr ⟨w.heap.size + 1, 0, rfl, trivial, by simp, ⟨⟨_, NodeD.ty.mono (fun _ _ => trivial) hn1, fun j u hj => ?_⟩, trivial⟩⟩
      exact (hbn.rd.1 (0 + j)).trans (by rw [Nat.zero_add]; exact hj)
    have HC := Lib.hid (gcheck_any (oneNode c.node) (fun _ => True) _ _ (GraphD.rep_mk (g := oneNode c.node) (A1 := some ⟨w.heap.size + 1, 0, none⟩) (c1 := 1) (A2 := none) (c2 := 0) (Nat.le_refl _) (Nat.le_refl _) hrow (.inl rfl)) (by show 1 ≤ BIG; decide) (by show 0 ≤ BIG; decide) (fun n hn => by
      have : n = c.node := by simpa [oneNode] using hn
      rw [this]; exact hs) (fun n hn => by simp [oneNode] at hn) (hT.below hB1))
    have HB0 := Lib.hid hB0
    have HB1 := Lib.hid hB1
    have HM := Lib.hid hm
    clear h hn hr hn1 hrow hbn hB0 hB1 hm h0
    by_cases h1 : 0 ≤ c.node.id
    · by_cases h2 : c.node.id < 4611686018427387904
      · have HM2 := Lib.hid (show ((oneNode c.node).check == 0) = m from by rw [← HM.out, decide_eq_true h1, decide_eq_true h2]; rfl)
        have hw : IntKind.i64.wrap (c.node.id + 1) = c.node.id + 1 := IntWalk.i64_in _ (by omega)
        have HC2 : Hid (Calls Tryz.prog 67 #[.agg #[.slice (some ⟨w.heap.size + 1, 0, none⟩) 1 1, .slice none 0 0, .int .i64 (c.node.id + 1), .int .i64 0]] _ _) := HC
        clear HC
        generalize (oneNode c.node).check = ck at *
        go_enter Tryz.func89, Tryz.ntmps89
        go_wp2_with fail
        refine HC2.out.mono ?_
        rintro e w1 ⟨rfl, hb1⟩
        go_wp2_with fail
        go_ret
        exact ⟨by rw [← HM2.out]; rfl, below_call HB1.out HB1.out.size hb1⟩
      · have HM2 := Lib.hid (show false = m from by rw [← HM.out, decide_eq_false h2]; simp)
        have h2' : decide (c.node.id < 4611686018427387904) = false := decide_eq_false h2
        clear HC
        go_enter Tryz.func89, Tryz.ntmps89
        go_wp2_with fail
        go_ret
        exact ⟨by rw [← HM2.out]; rfl, HB0.out⟩
    · have HM2 := Lib.hid (show false = m from by rw [← HM.out, decide_eq_false h1]; rfl)
      have h1' : decide (0 ≤ c.node.id) = false := decide_eq_false h1
      clear HC
      go_enter Tryz.func89, Tryz.ntmps89
      go_wp2_with fail
      go_ret
      exact ⟨by rw [← HM2.out]; rfl, HB0.out⟩
  · rw [if_neg h0] at hm
    have HB0 := Lib.hid hB0
    have k0 : (c.kind == 0) = false := by simpa using h0
    clear h hn hr hB0
    by_cases h1 : c.kind = 1 ∨ c.kind = 2 ∨ c.kind = 3 ∨ c.kind = 4
    · have HM := Lib.hid (show true = m from by rw [← hm]; simpa [Bool.or_assoc] using h1)
      clear hm h0 k0
      rcases h1 with h1 | h1 | h1 | h1
      all_goals
        rw [h1] at HB0 ⊢
        clear h1
        go_enter Tryz.func89, Tryz.ntmps89
        go_wp2_with fail
        go_ret
        exact ⟨by rw [← HM.out]; rfl, HB0.out⟩
    · have HM := Lib.hid (show false = m from by rw [← hm]; simp; omega)
      have k1 : (c.kind == 1) = false := by simp; omega
      have k2 : (c.kind == 2) = false := by simp; omega
      have k3 : (c.kind == 3) = false := by simp; omega
      have k4 : (c.kind == 4) = false := by simp; omega
      have n1 : ¬ c.kind = 1 := by omega
      have n2 : ¬ c.kind = 2 := by omega
      have n3 : ¬ c.kind = 3 := by omega
      have n4 : ¬ c.kind = 4 := by omega
      clear hm h1
      go_enter Tryz.func89, Tryz.ntmps89
      go_wp2_with fail
      go_ret
      exact ⟨by rw [← HM.out]; rfl, HB0.out⟩
theorem change1_any (c : ChangeD) (I : Nat → Prop) (w : World) (cs : List Value) (h : ChangeD.ty.rep I w c cs) (hs : c.node.size ≤ BIG) (hT : Tabs w) :
    Calls Tryz.prog 88 #[.agg cs.toArray] w fun e w' => e = .returned (.bool (!c.may)) ∧ Below w.heap.size w w' := by
  obtain ⟨A1, c1, A2, c2, A3, c3, rfl, hn, hr⟩ := ChangeD.rep_cells h
  have hB0 := below_alloc' (Below.refl w.heap.size w) (Nat.le_refl _) (.cells #[.int .i64 c.kind, .int .i64 c.id, .int .i64 c.other, .int .i64 c.node.id, .slice A1 c.node.labels.length c1, .slice A2 c.node.props.length c2, .int .i64 c.rel.id, .int .i64 c.rel.src, .int .i64 c.rel.dst, .string c.rel.type, .slice A3 c.rel.props.length c3] 69)
  have HC := Lib.hid (may_any' c _ _ _ (ChangeD.ty.below hB0 h) hs (hT.below hB0))
  have HB := Lib.hid hB0
  generalize c.may = m at *
  clear h hn hr hB0
  go_enter Tryz.func88, Tryz.ntmps88
  go_wp2_with fail
  refine HC.out.mono ?_
  rintro e w1 ⟨rfl, hb1⟩
  go_wp2_with fail
  go_ret
  exact ⟨rfl, below_call HB.out HB.out.size hb1⟩
end Go.Proofs.YtcmahpddjggcaaaGreatDoor
/- index.Copy at an index that is there. -/
namespace Go.Proofs.YtcmahpddjggcaaaGreatDoor
open Go Go.RowKit Go.Maps
set_option maxHeartbeats 4000000
set_option maxRecDepth 100000
/-- Another index that goes on apart; its values lie where no block is q. -/
def CopyOk (w : World) (N q : Nat) (x : IdxD) (e : Ending) (w' : World) : Prop :=
  ∃ p B sl mb, e = .returned (.pointer (some ⟨p, 0, none⟩)) ∧ w.heap.size ≤ B ∧ IdxIn B N (fun b => b ≠ q) w' p sl mb x ∧ Below w.heap.size w w'
theorem Own.monoB {α : Type} {d : Ty α} {e : TypeId} {B B' : Nat} {I : Nat → Prop} {w : World} {v : Value} {xs : List α} (hB : B' ≤ B) (h : Own d e B I w v xs) : Own d e B' I w v xs := by
  obtain ⟨inner, ⟨h0, h1⟩, h2⟩ := h
  refine ⟨inner, ⟨h0, ?_⟩, h2⟩
  rcases h1 with h1 | ⟨g, cap, cur, h3, h4, h5⟩
  · exact .inl h1
  · exact .inr ⟨g, cap, cur, h3, Nat.le_trans hB h4, h5⟩
theorem Own.row' {α : Type} {d : Ty α} {e : TypeId} {B : Nat} {I : Nat → Prop} {w : World} {v : Value} {xs : List α} (h : Own d e B I w v xs) : ∃ A c, v = .slice A xs.length c ∧ xs.length ≤ c ∧ Row d.sz (d.rep I w) (fun _ => True) w A xs := by
  obtain ⟨inner, h1, h2⟩ := h
  obtain ⟨A, c, rfl, hc, hr⟩ := own_form h1
  refine ⟨A, c, rfl, hc, ?_⟩
  rcases hr with hr | ⟨g, rfl, hB, hg, _, hat⟩
  · exact .inl (List.eq_nil_of_length_eq_zero hr)
  · exact .inr ⟨g, 0, rfl, trivial, hg, (h2.rowFrom (fun _ _ => d.len) hat).imp (fun _ _ => d.mono fun b hb => hb.1) (fun _ _ hh => hh)⟩
theorem copyix_any (B N : Nat) (I : Nat → Prop) (w : World) (p : Nat) (sl : Value) (mb : Nat) (x : IdxD) (h : IdxIn B N I w p sl mb x) (hxo : IdxOk x) :
    Calls Tryz.prog 26 #[.pointer (some ⟨p, 0, none⟩)] w (CopyOk w N p x) := by
  obtain ⟨hp, hBp, hBm, hpm, hps, hms, hO, D, hmap, hMI⟩ := h
  obtain ⟨As, cs, rfl, hcs, hrow⟩ := hO.row'
  have HTh := Lib.hid (there_any p _ _ _ _ w hp)
  have hmlt := hmap.lt
  obtain ⟨es, clock, hmb, hfit, hes, hD⟩ := id hmap
  have HR := Lib.hid hrow
  have HP := Lib.hid hp
  have HC := Lib.hid (show ∀ W, Below w.heap.size w W → Calls Tryz.prog 92 #[.slice As x.l.length cs] W (fun e w' => ∃ A2 c2, e = .returned (.slice A2 x.l.length c2) ∧ Hid (Own EntD.ty 148 w.heap.size (fun b => b ≠ p ∧ b < w.heap.size) w' (.slice A2 x.l.length c2) x.l) ∧ Below w.heap.size w w') from fun W hW => by
    have hrw : Row 7 (EntD.ty.rep (fun b => (I b ∧ b ≠ p ∧ b ≠ mb) ∧ b < w.heap.size) W) (fun _ => True) W As x.l := hrow.imp (fun _ _ hr => EntD.ty.below hW (EntD.ty.lt hr)) (fun b _ hl => ⟨trivial, Nat.lt_of_lt_of_le hl hW.size⟩) (fun b _ hl => hW.block b hl)
    refine (clone_ent _ _ x.l As cs W hrw (by have := hxo.1; omega)).mono ?_
    rintro e w' ⟨v, rfl, hOv, hbv⟩
    obtain ⟨A2, c2, rfl⟩ := hOv.form
    have hle := hW.size
    refine ⟨A2, c2, rfl, Own.monoB hle (hOv.mono (fun b hb => ⟨hb.1.2.1, hb.2⟩)), hW.trans (hbv.mono hle)⟩)
  have HM := Lib.hid (show ∀ W, Below w.heap.size w W → Calls Tryz.prog 93 #[.map (some mb)] W (fun e w' => e = .returned (.map (some W.heap.size)) ∧ w' = W.alloc (.map es clock)) from fun W hW => mapclone_any mb es clock W ((hW.block mb hmlt).trans hmb))
  have KS := Lib.hid (show ∀ w' : World, Below w.heap.size w w' → w'.cell? ⟨p, 0, none⟩ = some (.string x.label) ∧ w'.cell? ⟨p, 1, none⟩ = some (.string x.key) ∧ w'.cell? ⟨p, 2, none⟩ = some (.slice As x.l.length cs) ∧ w'.cell? ⟨p, 3, none⟩ = some (.map (some mb)) ∧ Below w.heap.size w w' from fun w' hb => by
    have g := (hp.below hb).rd.1
    exact ⟨g 0, g 1, g 2, g 3, hb⟩)
  have HMI := Lib.hid hMI
  have HF1 := Lib.hid hfit
  have HF2 := Lib.hid hD
  clear hp hO hrow hmap hmb hfit hD hMI HR
  go_enter Tryz.func26, Tryz.ntmps26
  go_wp2_with fail
  refine HTh.out.mono ?_
  rintro e w1 ⟨rfl, rfl⟩
  obtain ⟨m1, m2, m3, m4, m5⟩ := KS.out w1 (Below.refl _ _)
  clear m5
  go_wp2_with fail
  refine wp_region_held_drew (S := (fun w' => w'.cell? ⟨p, 0, none⟩ = some (.string x.label) ∧ w'.cell? ⟨p, 1, none⟩ = some (.string x.key) ∧ w'.cell? ⟨p, 2, none⟩ = some (.slice As x.l.length cs) ∧ w'.cell? ⟨p, 3, none⟩ = some (.map (some mb)) ∧ Below w1.heap.size w1 w')) (by kernel_rfl) ?o1 (fun hH0 => ?_)
  case o1 => ((try dsimp only); first | done | ((go_split_ands; refine KS.out _ ?_; repeat (first | with_reducible assumption | with_reducible exact Below.refl _ _ | with_reducible refine below_drew ?_ | with_reducible refine below_alloc' ?_ (Nat.le_refl _) _))))
  refine own_take (v := ?v2) 0 (some 6) rfl rfl (by kernel_rfl) (fun _ _ _ h => h) rfl (by assumption) ?o2 ?_
  case o2 => (intro w hSw; (try dsimp only at hSw); go_simp; try (with_reducible rfl))
  try simp only [Act.put, List.setIfInBounds_toArray, List.set_cons_zero, List.set_cons_succ]
  refine own_take (v := ?v3) 1 (some 7) rfl rfl (by kernel_rfl) (fun _ _ _ h => h) rfl (by assumption) ?o3 ?_
  case o3 => (intro w hSw; (try dsimp only at hSw); go_simp; try (with_reducible rfl))
  try simp only [Act.put, List.setIfInBounds_toArray, List.set_cons_zero, List.set_cons_succ]
  refine own_take (v := ?v4) 2 (some 8) rfl rfl (by kernel_rfl) (fun _ _ _ h => h) rfl (by assumption) ?o4 ?_
  case o4 => (intro w hSw; (try dsimp only at hSw); go_simp; try (with_reducible rfl))
  try simp only [Act.put, List.setIfInBounds_toArray, List.set_cons_zero, List.set_cons_succ]
  refine own_take (v := ?v5) 3 (some 9) rfl rfl (by kernel_rfl) (fun _ _ _ h => h) rfl (by assumption) ?o5 ?_
  case o5 => (intro w hSw; (try dsimp only at hSw); go_simp; try (with_reducible rfl))
  try simp only [Act.put, List.setIfInBounds_toArray, List.set_cons_zero, List.set_cons_succ]
  refine own_take (v := ?v6) 4 (some 10) rfl rfl (by kernel_rfl) (fun _ _ _ h => h) rfl (by assumption) ?o6 ?_
  case o6 => (intro w hSw; (try dsimp only at hSw); go_simp; try (with_reducible rfl))
  try simp only [Act.put, List.setIfInBounds_toArray, List.set_cons_zero, List.set_cons_succ]
  refine own_take (v := ?v7) 5 (some 11) rfl rfl (by kernel_rfl) (fun _ _ _ h => h) rfl (by assumption) ?o7 ?_
  case o7 => (intro w hSw; (try dsimp only at hSw); go_simp; try (with_reducible rfl))
  try simp only [Act.put, List.setIfInBounds_toArray, List.set_cons_zero, List.set_cons_succ]
  refine own_take (v := ?v8) 6 (some 12) rfl rfl (by kernel_rfl) (fun _ _ _ h => h) rfl (by assumption) ?o8 ?_
  case o8 => (intro w hSw; (try dsimp only at hSw); go_simp; try (with_reducible rfl))
  try simp only [Act.put, List.setIfInBounds_toArray, List.set_cons_zero, List.set_cons_succ]
  refine own_take (v := ?v9) 7 (some 13) rfl rfl (by kernel_rfl) (fun _ _ _ h => h) rfl (by assumption) ?o9 ?_
  case o9 => (intro w hSw; (try dsimp only at hSw); go_simp; try (with_reducible rfl))
  try simp only [Act.put, List.setIfInBounds_toArray, List.set_cons_zero, List.set_cons_succ]
  refine own_take (v := ?v10) 8 (some 14) rfl rfl (by kernel_rfl) (fun _ _ _ h => h) rfl (by assumption) ?o10 ?_
  case o10 => (intro w hSw; (try dsimp only at hSw); go_simp; try (with_reducible rfl))
  try simp only [Act.put, List.setIfInBounds_toArray, List.set_cons_zero, List.set_cons_succ]
  refine own_take (v := ?v11) 9 (some 15) rfl rfl (by kernel_rfl) (fun _ _ _ h => h) rfl (by assumption) ?o11 ?_
  case o11 => (intro w hSw; (try dsimp only at hSw); go_simp; try (with_reducible rfl))
  try simp only [Act.put, List.setIfInBounds_toArray, List.set_cons_zero, List.set_cons_succ]
  refine own_take (v := ?v12) 10 (some 16) rfl rfl (by kernel_rfl) (fun _ _ _ h => h) rfl (by assumption) ?o12 ?_
  case o12 => (intro w hSw; (try dsimp only at hSw); go_simp; try (with_reducible rfl))
  try simp only [Act.put, List.setIfInBounds_toArray, List.set_cons_zero, List.set_cons_succ]
  refine own_take (v := ?v13) 11 (some 17) rfl rfl (by kernel_rfl) (fun _ _ _ h => h) rfl (by assumption) ?o13 ?_
  case o13 => (intro w hSw; (try dsimp only at hSw); go_simp; try (with_reducible rfl))
  try simp only [Act.put, List.setIfInBounds_toArray, List.set_cons_zero, List.set_cons_succ]
  refine own_take (v := ?v14) 13 (some 19) rfl rfl (by kernel_rfl) (fun _ _ _ h => h) rfl (by assumption) ?o14 ?_
  case o14 => (intro w hSw; (try dsimp only at hSw); go_simp; try (with_reducible rfl))
  try simp only [Act.put, List.setIfInBounds_toArray, List.set_cons_zero, List.set_cons_succ]
  refine own_take (v := ?v15) 14 (some 20) rfl rfl (by kernel_rfl) (fun _ _ _ h => h) rfl (by assumption) ?o15 ?_
  case o15 => (intro w hSw; (try dsimp only at hSw); go_simp; try (with_reducible rfl))
  try simp only [Act.put, List.setIfInBounds_toArray, List.set_cons_zero, List.set_cons_succ]
  refine own_take (v := ?v16) 15 (some 21) rfl rfl (by kernel_rfl) (fun _ _ _ h => h) rfl (by assumption) ?o16 ?_
  case o16 => (intro w hSw; (try dsimp only at hSw); go_simp; try (with_reducible rfl))
  try simp only [Act.put, List.setIfInBounds_toArray, List.set_cons_zero, List.set_cons_succ]
  refine own_take (v := ?v17) 16 (some 22) rfl rfl (by kernel_rfl) (fun _ _ _ h => h) rfl (by assumption) ?o17 ?_
  case o17 => (intro w hSw; (try dsimp only at hSw); go_simp; try (with_reducible rfl))
  try simp only [Act.put, List.setIfInBounds_toArray, List.set_cons_zero, List.set_cons_succ]
  refine own_step 12 (by kernel_rfl) rfl (fun K hK => ?_)
  go_simp
  ((first | (go_at_call 92; refine (HC.out _ ?_).mono ?_; (go_split_ands; assumption); rintro e w2 ⟨A2, c2, rfl, HO2, hb2⟩) | (go_at_call 93; refine (HM.out _ ?_).mono ?_; (go_split_ands; assumption); rintro e w3 ⟨rfl, rfl⟩)))
  go_wp2_with fail
  refine hK.out _ _ ?o19 (fun hH1 => ?_)
  case o19 => ((try dsimp only); first | done | ((go_split_ands; refine KS.out _ ?_; repeat (first | with_reducible assumption | with_reducible exact Below.refl _ _ | with_reducible refine below_drew ?_ | with_reducible refine below_alloc' ?_ (Nat.le_refl _) _))))
  clear hK K hH0
  try simp only [Act.put, List.setIfInBounds_toArray, List.set_cons_zero, List.set_cons_succ]
  refine own_step 17 (by kernel_rfl) rfl (fun K hK => ?_)
  go_simp
  ((first | (go_at_call 92; refine (HC.out _ ?_).mono ?_; (go_split_ands; assumption); rintro e w2 ⟨A2, c2, rfl, HO2, hb2⟩) | (go_at_call 93; refine (HM.out _ ?_).mono ?_; (go_split_ands; assumption); rintro e w3 ⟨rfl, rfl⟩)))
  go_wp2_with fail
  refine hK.out _ _ ?o21 (fun hH2 => ?_)
  case o21 => ((try dsimp only); first | done | ((go_split_ands; refine KS.out _ ?_; repeat (first | with_reducible assumption | with_reducible exact Below.refl _ _ | with_reducible refine below_drew ?_ | with_reducible refine below_alloc' ?_ (Nat.le_refl _) _))))
  clear hK K hH1
  try simp only [Act.put, List.setIfInBounds_toArray, List.set_cons_zero, List.set_cons_succ]
  refine own_take (v := ?v22) 18 (some 24) rfl rfl (by kernel_rfl) (fun _ _ _ h => h) rfl (by assumption) ?o22 ?_
  case o22 => (intro w hSw; (try dsimp only at hSw); go_simp; try (with_reducible rfl))
  try simp only [Act.put, List.setIfInBounds_toArray, List.set_cons_zero, List.set_cons_succ]
  refine own_step 19 (by kernel_rfl) rfl (fun K hK => ?_)
  go_simp
  refine hK.out _ _ ?o24 (fun hH3 => ?_)
  case o24 => ((try dsimp only); first | done | ((go_split_ands; refine KS.out _ ?_; repeat (first | with_reducible assumption | with_reducible exact Below.refl _ _ | with_reducible refine below_drew ?_ | with_reducible refine below_alloc' ?_ (Nat.le_refl _) _))))
  clear hK K hH2
  try simp only [Act.put, List.setIfInBounds_toArray, List.set_cons_zero, List.set_cons_succ]
  refine own_take (v := ?v25) 20 (some 2) rfl rfl (by kernel_rfl) (fun _ _ _ h => h) rfl (by assumption) ?o25 ?_
  case o25 => (intro w hSw; (try dsimp only at hSw); go_simp; try (with_reducible rfl))
  try simp only [Act.put, List.setIfInBounds_toArray, List.set_cons_zero, List.set_cons_succ]
  refine wpAnyH_done (by kernel_rfl) ?_ _
  go_wp2_with fail
  go_ret
  have hb4 := below_alloc' (below_alloc' (Below.refl w2.heap.size w2) (Nat.le_refl _) (.map es clock)) (Nat.le_refl _) (.cells #[.string x.label, .string x.key, .slice A2 x.l.length c2, .map (some w2.heap.size)] 33)
  have hle := hb2.size
  have hown : ∀ g, (Value.slice A2 x.l.length c2).ownBlock = some g → w1.heap.size ≤ g ∧ g < w2.heap.size := fun g hg => HO2.out.block hg
  have hbn := Blk.new (w2.alloc (.map es clock)) [.string x.label, .string x.key, .slice A2 x.l.length c2, .map (some w2.heap.size)] 33
  rw [show (w2.alloc (.map es clock)).heap.size = w2.heap.size + 1 by simp] at hbn
  have hpl := HP.out.lt
  refine ⟨w2.heap.size + 1, w1.heap.size, .slice A2 x.l.length c2, w2.heap.size, rfl, Nat.le_refl _, ⟨hbn, by omega, by omega, by omega, fun e => by have := (hown _ e.symm).2; omega, fun e => by have := (hown _ e.symm).2; omega,
    (HO2.out.below hb4).mono (fun b hb => ⟨hb.1, by omega, by omega⟩), D, World.ownsMap.alloc ⟨es, clock, (MapKept.heap_alloc w2 _).1, HF1.out, hes, HF2.out⟩ _, ?_⟩, hb2.trans (hb4.mono hle)⟩
  refine HMI.out.imp fun v cs hr => ?_
  exact V.ty.mono (fun b hb => ⟨⟨hb.1.1.2.1, by have := hb.2; omega, by have := hb.2; omega⟩, fun e => by have := (hown _ e.symm).1; have := hb.2; omega⟩) (V.ty.below hb4 (V.ty.below hb2 (V.ty.lt hr)))
end Go.Proofs.YtcmahpddjggcaaaGreatDoor
/- index.Change at an index that is there. -/
namespace Go.Proofs.YtcmahpddjggcaaaGreatDoor
open Go Go.RowKit Go.Maps
set_option maxHeartbeats 4000000
set_option maxRecDepth 100000
/-- What a change makes of an index. -/
def IdxD.chg (x : IdxD) (c : ChangeD) : IdxD := if c.kind = 0 then x.put c.node else if c.kind = 2 then x.drop c.id else x
def chgs (x : IdxD) (l : List ChangeD) : IdxD := l.foldl IdxD.chg x
theorem chgs_snoc (x : IdxD) {l : List ChangeD} {k : Nat} {c : ChangeD} (h : l[k]? = some c) : chgs x (l.take (k + 1)) = (chgs x (l.take k)).chg c := by
  unfold chgs
  rw [take_snoc' h, List.foldl_append]; rfl
theorem IdxD.put_names (x : IdxD) (n : NodeD) : (x.put n).label = x.label ∧ (x.put n).key = x.key := by
  obtain ⟨h1, h2⟩ := x.drop_names n.id
  unfold IdxD.put
  split
  · split
    · exact ⟨h1, h2⟩
    · exact ⟨h1, h2⟩
  · exact ⟨h1, h2⟩
theorem IdxD.chg_names (x : IdxD) (c : ChangeD) : (x.chg c).label = x.label ∧ (x.chg c).key = x.key := by
  unfold IdxD.chg
  split
  · exact x.put_names _
  · split
    · exact x.drop_names _
    · exact ⟨rfl, rfl⟩
theorem chgs_names (l : List ChangeD) : ∀ x : IdxD, (chgs x l).label = x.label ∧ (chgs x l).key = x.key := by
  induction l with
  | nil => exact fun x => ⟨rfl, rfl⟩
  | cons c cs ih => exact fun x => ⟨(ih (x.chg c)).1.trans (x.chg_names c).1, (ih (x.chg c)).2.trans (x.chg_names c).2⟩
/-- What each step of Change asks. -/
def StepOk (x : IdxD) (c : ChangeD) : Prop := IdxOk x ∧ (c.kind = 0 → DropOk x c.node.id) ∧ (c.kind = 2 → DropOk x c.id ∧ (Lit.int .i64 c.id).wf = true)
def ChangeOk (B N : Nat) (w : World) (p : Nat) (x : IdxD) (e : Ending) (w' : World) : Prop :=
  e = .returned (.int .i64 0) ∧ Below B w w' ∧ ∃ sl mb, IdxIn B N (fun _ => True) w' p sl mb x
theorem may_id {c : ChangeD} (h : c.may = true) (h0 : c.kind = 0) : (Lit.int .i64 c.node.id).wf = true := by
  unfold ChangeD.may at h
  rw [if_pos h0] at h
  simp only [Bool.and_eq_true, decide_eq_true_eq] at h
  exact wf_big (by omega) (by omega)
theorem change_end (B B' N : Nat) (w wr : World) (p p' : Nat) (sl : Value) (mb : Nat) (x : IdxD) (la ke : Value) (sl0 m0 : Value) (hBp : B ≤ p) (hpB : p < B') (hb : Blk wr p [la, ke, sl0, m0] 33) (h : IdxIn B' N (fun b => b ≠ p) wr p' sl mb x) (hB : Below B w wr) :
    ChangeOk B N w p x (.returned (.int .i64 0)) ((((wr.setCell ⟨p, 0, none⟩ (.string x.label)).setCell ⟨p, 1, none⟩ (.string x.key)).setCell ⟨p, 2, none⟩ sl).setCell ⟨p, 3, none⟩ (.map (some mb))) := by
  obtain ⟨hp, hBp', hBm, hpm, hps, hms, hO, D, hmap, hM⟩ := h
  have hg := grown_set (grown_set (grown_set (grown_set (grown_refl wr (some p)) 0 (.string x.label)) 1 (.string x.key)) 2 sl) 3 (.map (some mb))
  have hs : some p ≠ sl.ownBlock := fun e => by have := (hO.block e.symm).1; omega
  refine ⟨rfl, below_set (below_set (below_set (below_set hB hBp 0 _) hBp 1 _) hBp 2 _) hBp 3 _, sl, mb, (((hb.set 0 _).set 1 _).set 2 _).set 3 _, hBp, by omega, by omega, hs, hms, ?_, D, hmap.kept hg (fun e => by injection e with e; omega), ?_⟩
  · exact Own.monoB (by omega) ((hO.grown (fun b hb e => hb.1 (by injection e)) (.inr (fun e => hs e.symm)) hg).mono (fun b hb => ⟨trivial, hb.1, hb.2.2⟩))
  · exact hM.imp fun v cs hr => V.ty.mono (fun b hb => ⟨⟨trivial, hb.1.1, hb.1.2.2⟩, hb.2⟩) (V.ty.grown (fun b hb e => hb.1.1 (by injection e)) hg hr)
theorem change_any (l : List ChangeD) (A : Option Addr) (c : Nat) (B N : Nat) (I J : Nat → Prop) (w : World) (p : Nat) (sl : Value) (mb : Nat) (x : IdxD) (h : IdxIn B N I w p sl mb x) (hl : Row 11 (ChangeD.ty.rep J w) J w A l) (hlb : l.length ≤ BIG) (hN : N ≤ BIG) (hs : ∀ c, c ∈ l → c.node.size ≤ BIG)
    (hmay : (l.any fun c => !c.may) = false) (hxo : IdxOk x) (hst : ∀ k c, l[k]? = some c → StepOk (chgs x (l.take k)) c) (hT : Tabs w) :
    Calls Tryz.prog 25 #[.pointer (some ⟨p, 0, none⟩), .slice A l.length c] w (ChangeOk B (N + l.length) w p (chgs x l)) := by
  have hp := h.1
  have hBp := h.2.1
  have hpl := hp.lt
  have HTh := Lib.hid (there_any p _ _ _ _ w hp)
  have HCF := Lib.hid (containsFunc_chg 88 #[] (enters_of Tryz.func88 (by kernel_rfl) rfl) (fun c => !c.may) l J A c w hl hlb (fun q hq W cs hW hr => change1_any q _ W cs hr (hs q hq) (hT.below hW)))
  rw [hmay] at HCF
  have HCP := Lib.hid (fun W (hW : Below w.heap.size w W) => copyix_any B N I W p sl mb x (h.below hW) hxo)
  have hnI : (l.length : Int) ≤ 1073741824 := by rw [BIG_eq] at hlb; omega
  have HST := Lib.hid hst
  have HMAY := Lib.hid (show ∀ c, c ∈ l → c.may = true from fun c hc => by
    have := List.any_eq_false.1 hmay c hc
    simpa using this)
  have HP := Lib.hid hp
  have HL := Lib.hid hl
  clear h hmay hst hp
  go_enter Tryz.func25, Tryz.ntmps25
  go_wp2_with fail
  refine HTh.out.mono ?_
  rintro e w1 ⟨rfl, rfl⟩
  go_wp2_with fail
  refine HCF.out.mono ?_
  rintro e w2 ⟨rfl, hb2⟩
  go_wp2_with fail
  refine (HCP.out _ hb2).mono ?_
  rintro e w3 ⟨p', B', sl', mb', rfl, hB', hi3, hb3⟩
  have hw3 := below_call hb2 hb2.size hb3
  have HI3 := Lib.hid hi3
  have hB1 : w1.heap.size ≤ B' := Nat.le_trans hb2.size hB'
  have hB3 : B' ≤ w3.heap.size := Nat.le_trans hi3.2.1 (Nat.le_of_lt hi3.1.lt)
  clear hi3
  go_wp2_with fail
  go_loopw [17] (fun i wr => ∃ k : Nat, k ≤ l.length ∧ i = .int .i64 k ∧ Hid (∃ sl'', IdxIn B' (N + k) (fun b => b ≠ p) wr p' sl'' mb' (chgs x (l.take k))) ∧ Below B' w3 wr) (fun i _ => l.length - (intOf i).toNat)
  case atStart => exact ⟨0, Nat.zero_le _, rfl, Lib.hid ⟨sl', HI3.out⟩, Below.refl _ _⟩
  case round =>
    obtain ⟨k, hk, rfl, HI, hB⟩ := hrel
    obtain ⟨sl'', hI⟩ := HI.out
    have hBr : Below w1.heap.size w1 wr := hw3.trans (hB.mono hB1)
    by_cases hlt : k < l.length
    · obtain ⟨ch, hch, hcm⟩ := get_some hlt
      obtain ⟨cb, coff, ccs, rfl, _, hbl, hcs, hat⟩ := HL.out.get hch
      have hcs' := ChangeD.ty.belowB (fun b hb => hb.2) hBr (ChangeD.ty.lt hcs)
      obtain ⟨A1, c1, A2, c2, A3, c3, rfl, hn, _⟩ := ChangeD.rep_cells hcs'
      obtain ⟨g0, g1, g2, g3, g4, g5, g6, g7, g8, g9, g10⟩ := (hat.below hbl hBr).eleven
      obtain ⟨so1, so2, so3⟩ := HST.out k ch hch
      have hSN := Lib.hid (chgs_snoc x hch)
      have hbn := below_alloc' (Below.refl wr.heap.size wr) (Nat.le_refl _) (.cells #[.int .i64 ch.kind, .int .i64 ch.id, .int .i64 ch.other, .int .i64 ch.node.id, .slice A1 ch.node.labels.length c1, .slice A2 ch.node.props.length c2, .int .i64 ch.rel.id, .int .i64 ch.rel.src, .int .i64 ch.rel.dst, .string ch.rel.type, .slice A3 ch.rel.props.length c3] 69)
      have hlow : B' ≤ wr.heap.size := Nat.le_trans hB3 hB.size
      have hTB : ∀ W', Below B' (wr.alloc (.cells #[.int .i64 ch.kind, .int .i64 ch.id, .int .i64 ch.other, .int .i64 ch.node.id, .slice A1 ch.node.labels.length c1, .slice A2 ch.node.props.length c2, .int .i64 ch.rel.id, .int .i64 ch.rel.src, .int .i64 ch.rel.dst, .string ch.rel.type, .slice A3 ch.rel.props.length c3] 69)) W' → Tabs W' := fun W' hW' => hT.below ((below_call hBr hBr.size hbn).trans (hW'.mono hB1))
      have HBN := Lib.hid (hbn.mono hlow)
      have HMC := HMAY.out ch hcm
      by_cases h0 : ch.kind = 0
      · have HP2 := Lib.hid (put_any B' (N + k) (fun b => b ≠ p) (fun b => J b ∧ b < w1.heap.size) _ p' sl'' mb' (chgs x (l.take k)) ch.node [.int .i64 ch.node.id, .slice A1 ch.node.labels.length c1, .slice A2 ch.node.props.length c2]
          { idx := hI.below hbn, rep := NodeD.ty.below hbn hn, out := fun b hb => by have := hb.2; omega, wf := may_id HMC h0, size := hs ch hcm, dok := so2 h0, ok := so1, tabs := hT.below (below_call hBr hBr.size hbn), low := Nat.le_trans hlow hbn.size, tabsB := hTB } (fun b hb => by omega) (by rw [BIG_eq] at *; simp only [maxLen]; omega))
        have hE := Lib.hid (show chgs x (l.take (k + 1)) = (chgs x (l.take k)).put ch.node from by rw [hSN.out]; unfold IdxD.chg; rw [if_pos h0])
        rw [h0] at g0 HP2 HBN
        clear hat hcs hcs' hn hch hI HI so1 so2 so3 hSN hbn hTB h0
        go_wp2_with fail
        refine HP2.out.mono ?_
        rintro e w5 ⟨rfl, hb5, hk5, sl5, hi5, _⟩
        have HI5 := Lib.hid (show ∃ sl, IdxIn B' (N + (k + 1)) (fun b => b ≠ p) w5 p' sl mb' (chgs x (l.take (k + 1))) from by rw [hE.out]; exact ⟨sl5, hi5⟩)
        clear hk5 hi5 hE
        go_wp2_with fail
        go_roundw
        case rel => exact ⟨k + 1, by omega, by go_num, HI5, hB.trans (HBN.out.trans hb5)⟩
        case measure => simp [intOf]; omega
      · have k0 : (ch.kind == 0) = false := by simpa using h0
        by_cases h2 : ch.kind = 2
        · have HP2 := Lib.hid (drop_any (chgs x (l.take k)) ch.id B' (N + k) (fun b => b ≠ p) _ p' sl'' mb' (hI.below hbn) (so3 h2).2 (so3 h2).1 so1 (hT.below (below_call hBr hBr.size hbn)) (Nat.le_trans hlow hbn.size) hTB)
          have hE := Lib.hid (show chgs x (l.take (k + 1)) = (chgs x (l.take k)).drop ch.id from by rw [hSN.out]; unfold IdxD.chg; rw [if_neg h0, if_pos h2])
          rw [h2] at g0 HP2 HBN
          clear hat hcs hcs' hn hch hI HI so1 so2 so3 hSN hbn hTB h0 h2 k0
          go_wp2_with fail
          refine HP2.out.mono ?_
          rintro e w5 ⟨rfl, hb5, hk5, sl5, hi5, _⟩
          have HI5 := Lib.hid (show ∃ sl, IdxIn B' (N + (k + 1)) (fun b => b ≠ p) w5 p' sl mb' (chgs x (l.take (k + 1))) from by rw [hE.out]; exact ⟨sl5, hi5.mono (by omega)⟩)
          clear hk5 hi5 hE
          go_wp2_with fail
          go_roundw
          case rel => exact ⟨k + 1, by omega, by go_num, HI5, hB.trans (HBN.out.trans hb5)⟩
          case measure => simp [intOf]; omega
        · have k2 : (ch.kind == 2) = false := by simpa using h2
          have HI5 := Lib.hid (show ∃ sl, IdxIn B' (N + (k + 1)) (fun b => b ≠ p) (wr.alloc (.cells #[.int .i64 ch.kind, .int .i64 ch.id, .int .i64 ch.other, .int .i64 ch.node.id, .slice A1 ch.node.labels.length c1, .slice A2 ch.node.props.length c2, .int .i64 ch.rel.id, .int .i64 ch.rel.src, .int .i64 ch.rel.dst, .string ch.rel.type, .slice A3 ch.rel.props.length c3] 69)) p' sl mb' (chgs x (l.take (k + 1))) from by
            rw [hSN.out]; unfold IdxD.chg; rw [if_neg h0, if_neg h2]; exact ⟨sl'', (hI.below hbn).mono (by omega)⟩)
          clear hat hcs hcs' hn hch hI HI so1 so2 so3 hSN hbn hTB
          go_wp2_with fail
          go_roundw
          case rel => exact ⟨k + 1, by omega, by go_num, HI5, hB.trans HBN.out⟩
          case measure => simp [intOf]; omega
    · obtain rfl : k = l.length := by omega
      rw [List.take_length] at hI
      obtain ⟨As2, cs2, rfl, _⟩ := hI.row
      have hbp := HP.out.below hBr
      have hfin := Lib.hid (change_end B B' (N + l.length) w1 wr p p' _ mb' (chgs x l) _ _ _ _ hBp (by omega) hbp hI (hBr.mono (by omega)))
      obtain ⟨yq, zq, lq⟩ := hI.1.facts
      obtain ⟨yp, zp, lp⟩ := hbp.facts
      clear hI HI hbp
      go_wp2_with fail
      go_ret
      exact hfin.out
end Go.Proofs.YtcmahpddjggcaaaGreatDoor
