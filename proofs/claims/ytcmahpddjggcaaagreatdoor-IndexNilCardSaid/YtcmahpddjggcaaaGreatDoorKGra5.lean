/- graph: nodes. -/
import Derived.Test.YtcmahpddjggcaaaGreatDoorKGra4
import Derived.Test.YtcmahpddjggcaaaGreatDoorKOwnE
namespace Go.Proofs.YtcmahpddjggcaaaGreatDoor
open Go Go.RowKit
set_option maxHeartbeats 4000000
set_option maxRecDepth 100000

def nAt (l : List NodeD) (i : Nat) : NodeD := l.getD i ⟨0, [], []⟩
def nodeIn (l : List NodeD) (next : Int) (i : Nat) : Bool := nodeOk (nAt l i) && decide ((nAt l i).id < next) && (i == 0 || decide ((nAt l (i - 1)).id < (nAt l i).id))
def nodesOk (l : List NodeD) (next : Int) : Bool := (List.range l.length).all (nodeIn l next)
theorem range_all {p : Nat → Bool} {n k : Nat} (h : ∀ j, j < k → p j = true) (hk : n ≤ k) : (List.range n).all p = true := by
  simp only [List.all_eq_true, List.mem_range]; intro j hj; exact h j (by omega)
theorem range_not {p : Nat → Bool} {n k : Nat} (h : p k = false) (hk : k < n) : (List.range n).all p = false := by
  rw [Bool.eq_false_iff]; intro ha; simp only [List.all_eq_true, List.mem_range] at ha; rw [ha k hk] at h; cases h
theorem range_step {p : Nat → Bool} {k : Nat} (h : ∀ j, j < k → p j = true) (hp : p k = true) : ∀ j, j < k + 1 → p j = true := by
  intro j hj
  rcases Nat.lt_or_ge j k with hh | hh
  · exact h j hh
  · obtain rfl : j = k := by omega
    exact hp
theorem nAt_get {l : List NodeD} {k : Nat} {x : NodeD} (h : l[k]? = some x) : nAt l k = x := by rw [nAt, List.getD_eq_getElem?_getD, h]; rfl
theorem nodes_any (g : GraphD) (I : Nat → Prop) (w : World) (cs : List Value) (h : GraphD.ty.rep I w g cs) (hl : g.nodes.length ≤ BIG) (hs : ∀ n, n ∈ g.nodes → n.size ≤ BIG) (hT : Tabs w) :
    Calls Tryz.prog 161 #[.agg cs.toArray] w fun e w' => e = .returned (.bool (nodesOk g.nodes g.nextNode)) ∧ Below w.heap.size w w' := by
  obtain ⟨A1, c1, A2, c2, rfl, k1, k2, h1, h2⟩ := GraphD.rep_open h
  have hlen : (g.nodes.length : Int) ≤ 9223372036854775806 := by rw [BIG_eq] at hl; omega
  obtain ⟨r, HR⟩ : ∃ q, Hid (nodesOk g.nodes g.nextNode = q) := ⟨_, Lib.hid rfl⟩
  rw [HR.out]
  have hB0 := below_alloc' (Below.refl w.heap.size w) (Nat.le_refl _) (.cells #[.slice A1 g.nodes.length c1, .slice A2 g.rels.length c2, .int .i64 g.nextNode, .int .i64 g.nextRel] 56)
  have b0 := Blk.new w [.slice A1 g.nodes.length c1, .slice A2 g.rels.length c2, .int .i64 g.nextNode, .int .i64 g.nextRel] 56
  have hw0 : w.heap.size + 1 ≤ (w.alloc (.cells #[.slice A1 g.nodes.length c1, .slice A2 g.rels.length c2, .int .i64 g.nextNode, .int .i64 g.nextRel] 56)).heap.size := by simp
  have HS := Lib.hid hs
  clear h h2 hs
  go_enter Tryz.func161, Tryz.ntmps161
  go_wp2_with fail
  generalize w.alloc (.cells #[.slice A1 g.nodes.length c1, .slice A2 g.rels.length c2, .int .i64 g.nextNode, .int .i64 g.nextRel] 56) = W0 at *
  go_loopw [8] (fun i wr => ∃ k : Nat, k ≤ g.nodes.length ∧ i = .int .i64 k ∧ Hid (∀ j, j < k → nodeIn g.nodes g.nextNode j = true) ∧ Below W0.heap.size W0 wr) (fun i _ => g.nodes.length - (intOf i).toNat)
  case atStart => exact ⟨0, Nat.zero_le _, rfl, Lib.hid (fun j hj => by omega), Below.refl _ _⟩
  case round =>
    obtain ⟨k, hk, rfl, HN, hB⟩ := hrel
    by_cases hlt : k < g.nodes.length
    · obtain ⟨x, hx, hxm⟩ := get_some hlt
      obtain ⟨b, off, cs, rfl, hIb, hbl, hcs, hat⟩ := h1.get hx
      have hcs' := NodeD.ty.lt hcs
      obtain ⟨X1, e1, X2, e2, rfl, _⟩ := NodeD.rep_open hcs
      have hBw := below_call hB0 hB0.size hB
      obtain ⟨g0, g1, g2⟩ := (hat.below hbl hBw).three
      have HX := Lib.hid (show nodeIn g.nodes g.nextNode k = (nodeOk x && decide (x.id < g.nextNode) && (k == 0 || decide ((nAt g.nodes (k - 1)).id < x.id))) by rw [nodeIn, nAt_get hx])
      have HCS := Lib.hid hcs'
      have HB0 := Lib.hid (b0.below hB)
      have HBw := Lib.hid hBw
      have hwr : w.heap.size + 1 ≤ wr.heap.size := Nat.le_trans hw0 hB.size
      have HSX := Lib.hid (HS.out x hxm)
      have HPV := Lib.hid (show ∀ m, k = m + 1 → ∀ W, Below w.heap.size w W → W.cell? ⟨b, off + m * 3, none⟩ = some (.int .i64 (nAt g.nodes m).id) from fun m hm W hW => by
        subst hm
        obtain ⟨y, hy, hym⟩ := get_some (l := g.nodes) (k := m) (by omega)
        obtain ⟨b', off', ds, hA', _, hbl', hds, hat'⟩ := h1.get hy
        simp only [Option.some.injEq, Addr.mk.injEq, and_true] at hA'
        obtain ⟨rfl, rfl⟩ := hA'
        obtain ⟨Y1, f1, Y2, f2, rfl, _⟩ := NodeD.rep_open hds
        rw [nAt_get hy]
        exact (hat'.below hbl' hW).three.1)
      clear hat hx hcs hcs' hBw
      go_wp2_with fail
      have bx := Blk.new wr [.int .i64 x.id, .slice X1 x.labels.length e1, .slice X2 x.props.length e2] 65
      have hWx : Below wr.heap.size wr (wr.alloc (.cells #[.int .i64 x.id, .slice X1 x.labels.length e1, .slice X2 x.props.length e2] 65)) := below_alloc' (Below.refl _ _) (Nat.le_refl _) _
      have b2 := HB0.out.alloc (.cells #[.int .i64 x.id, .slice X1 x.labels.length e1, .slice X2 x.props.length e2] 65)
      have hs1 : wr.heap.size + 1 ≤ (wr.alloc (.cells #[.int .i64 x.id, .slice X1 x.labels.length e1, .slice X2 x.props.length e2] 65)).heap.size := by simp
      generalize wr.alloc (.cells #[.int .i64 x.id, .slice X1 x.labels.length e1, .slice X2 x.props.length e2] 65) = W1 at *
      have hB1 := below_call HBw.out HBw.out.size hWx
      have HB9 := Lib.hid (below_call hB hB.size hWx)
      have HC := Lib.hid (show ∀ W, Below W1.heap.size W1 W → Calls Tryz.prog 236 #[.agg #[.int .i64 x.id, .slice X1 x.labels.length e1, .slice X2 x.props.length e2]] W fun e w' => e = .returned (.bool (nodeOk x)) ∧ Below W1.heap.size W1 w' from fun W hW => by
        have hh := below_call hB1 hB1.size hW
        exact (node_any x _ W _ (NodeD.ty.belowB (fun _ hb => hb.2) hh HCS.out) HSX.out (hT.below hh)).mono (fun e w' h => ⟨h.1, hW.trans (h.2.mono hW.size)⟩))
      generalize nodeOk x = ok at *
      clear HCS HSX HBw HB0 g0 g1 g2 hB
      cases k with
      | zero =>
        have KS := Lib.hid (show ∀ w', Below W1.heap.size W1 w' → w'.cell? ⟨wr.heap.size, 0, none⟩ = some (.int .i64 x.id) ∧ w'.cell? ⟨wr.heap.size, 1, none⟩ = some (.slice X1 x.labels.length e1) ∧ w'.cell? ⟨wr.heap.size, 2, none⟩ = some (.slice X2 x.props.length e2) ∧ w'.cell? ⟨w.heap.size, 0, none⟩ = some (.slice (some ⟨b, off, none⟩) g.nodes.length c1) ∧ w'.cell? ⟨w.heap.size, 1, none⟩ = some (.slice A2 g.rels.length c2) ∧ w'.cell? ⟨w.heap.size, 2, none⟩ = some (.int .i64 g.nextNode) ∧ w'.cell? ⟨w.heap.size, 3, none⟩ = some (.int .i64 g.nextRel) ∧ Below W1.heap.size W1 w' from fun w' hb => ⟨(bx.below hb).rd.1 0, (bx.below hb).rd.1 1, (bx.below hb).rd.1 2, (b2.below hb).rd.1 0, (b2.below hb).rd.1 1, (b2.below hb).rd.1 2, (b2.below hb).rd.1 3, hb⟩)
        obtain ⟨m1, m2, m3, m4, m5, m6, m7, m8⟩ := KS.out W1 (Below.refl _ _)
        clear bx b2 hWx hB1 HPV m8
        cases ok with
        | false =>
          have HT := Lib.hid (show r = false by rw [← HR.out]; exact range_not (by rw [HX.out]; rfl) hlt)
          refine wp_region_held_drew (S := (fun w' => w'.cell? ⟨wr.heap.size, 0, none⟩ = some (.int .i64 x.id) ∧ w'.cell? ⟨wr.heap.size, 1, none⟩ = some (.slice X1 x.labels.length e1) ∧ w'.cell? ⟨wr.heap.size, 2, none⟩ = some (.slice X2 x.props.length e2) ∧ w'.cell? ⟨w.heap.size, 0, none⟩ = some (.slice (some ⟨b, off, none⟩) g.nodes.length c1) ∧ w'.cell? ⟨w.heap.size, 1, none⟩ = some (.slice A2 g.rels.length c2) ∧ w'.cell? ⟨w.heap.size, 2, none⟩ = some (.int .i64 g.nextNode) ∧ w'.cell? ⟨w.heap.size, 3, none⟩ = some (.int .i64 g.nextRel) ∧ Below W1.heap.size W1 w')) (by kernel_rfl) ?o1 (fun hH0 => ?_)
          case o1 => ((try dsimp only); first | done | (first | (exact KS.out _ (Below.refl _ _)) | (exact KS.out _ (below_drewN (Below.refl _ _) 1)) | (go_split_ands; refine KS.out _ ?_; assumption)))
          refine own_take (v := ?v2) 0 (some 13) rfl rfl (by kernel_rfl) (fun _ _ _ h => h) rfl (by assumption) ?o2 ?_
          case o2 => (intro w hSw; (try dsimp only at hSw); go_simp; try (with_reducible rfl))
          try simp only [Act.put, List.setIfInBounds_toArray, List.set_cons_zero, List.set_cons_succ]
          refine own_step 1 (by kernel_rfl) rfl (fun K hK => ?_)
          go_simp
          (first | (go_at_call 236; refine (HC.out _ ?_).mono ?_; (go_split_ands; assumption); rintro e w1 ⟨rfl, hb1⟩))
          go_wp2_with fail
          refine hK.out _ _ ?o3 (fun hH1 => ?_)
          case o3 => ((try dsimp only); first | done | (first | (exact KS.out _ (Below.refl _ _)) | (exact KS.out _ (below_drewN (Below.refl _ _) 1)) | (go_split_ands; refine KS.out _ ?_; assumption)))
          clear hK K hH0
          try simp only [Act.put, List.setIfInBounds_toArray, List.set_cons_zero, List.set_cons_succ]
          refine own_take (v := ?v4) 2 (some 15) rfl rfl (by kernel_rfl) (fun _ _ _ h => h) rfl (by assumption) ?o4 ?_
          case o4 => (intro w hSw; (try dsimp only at hSw); go_simp; try (with_reducible rfl))
          try simp only [Act.put, List.setIfInBounds_toArray, List.set_cons_zero, List.set_cons_succ]
          refine own_take (v := ?v5) 3 (some 16) rfl rfl (by kernel_rfl) (fun _ _ _ h => h) rfl (by assumption) ?o5 ?_
          case o5 => (intro w hSw; (try dsimp only at hSw); go_simp; try (with_reducible rfl))
          try simp only [Act.put, List.setIfInBounds_toArray, List.set_cons_zero, List.set_cons_succ]
          refine own_skip 4 (some 17) rfl rfl (by kernel_rfl) (fun _ _ _ h => h) rfl (by assumption) ?_
          try simp only [Act.put, List.setIfInBounds_toArray, List.set_cons_zero, List.set_cons_succ]
          refine own_skip 5 (some 18) rfl rfl (by kernel_rfl) (fun _ _ _ h => h) rfl (by assumption) ?_
          try simp only [Act.put, List.setIfInBounds_toArray, List.set_cons_zero, List.set_cons_succ]
          refine own_skip 6 (some 19) rfl rfl (by kernel_rfl) (fun _ _ _ h => h) rfl (by assumption) ?_
          try simp only [Act.put, List.setIfInBounds_toArray, List.set_cons_zero, List.set_cons_succ]
          refine own_skip 7 (some 20) rfl rfl (by kernel_rfl) (fun _ _ _ h => h) rfl (by assumption) ?_
          try simp only [Act.put, List.setIfInBounds_toArray, List.set_cons_zero, List.set_cons_succ]
          refine own_skip 8 (some 21) rfl rfl (by kernel_rfl) (fun _ _ _ h => h) rfl (by assumption) ?_
          try simp only [Act.put, List.setIfInBounds_toArray, List.set_cons_zero, List.set_cons_succ]
          refine own_take (v := ?v11) 9 (some 22) rfl rfl (by kernel_rfl) (fun _ _ _ h => h) rfl (by assumption) ?o11 ?_
          case o11 => (intro w hSw; (try dsimp only at hSw); go_simp; try (with_reducible rfl))
          try simp only [Act.put, List.setIfInBounds_toArray, List.set_cons_zero, List.set_cons_succ]
          refine own_take (v := ?v12) 10 (some 23) rfl rfl (by kernel_rfl) (fun _ _ _ h => h) rfl (by assumption) ?o12 ?_
          case o12 => (intro w hSw; (try dsimp only at hSw); go_simp; try (with_reducible rfl))
          try simp only [Act.put, List.setIfInBounds_toArray, List.set_cons_zero, List.set_cons_succ]
          refine own_skip 11 (some 24) rfl rfl (by kernel_rfl) (fun _ _ _ h => h) rfl (by assumption) ?_
          try simp only [Act.put, List.setIfInBounds_toArray, List.set_cons_zero, List.set_cons_succ]
          refine own_skip 12 (some 25) rfl rfl (by kernel_rfl) (fun _ _ _ h => h) rfl (by assumption) ?_
          try simp only [Act.put, List.setIfInBounds_toArray, List.set_cons_zero, List.set_cons_succ]
          refine own_skip 13 (some 26) rfl rfl (by kernel_rfl) (fun _ _ _ h => h) rfl (by assumption) ?_
          try simp only [Act.put, List.setIfInBounds_toArray, List.set_cons_zero, List.set_cons_succ]
          refine own_skip 14 (some 27) rfl rfl (by kernel_rfl) (fun _ _ _ h => h) rfl (by assumption) ?_
          try simp only [Act.put, List.setIfInBounds_toArray, List.set_cons_zero, List.set_cons_succ]
          refine own_skip 15 (some 28) rfl rfl (by kernel_rfl) (fun _ _ _ h => h) rfl (by assumption) ?_
          try simp only [Act.put, List.setIfInBounds_toArray, List.set_cons_zero, List.set_cons_succ]
          refine own_skip 16 (some 29) rfl rfl (by kernel_rfl) (fun _ _ _ h => h) rfl (by assumption) ?_
          try simp only [Act.put, List.setIfInBounds_toArray, List.set_cons_zero, List.set_cons_succ]
          refine own_skip 17 (some 30) rfl rfl (by kernel_rfl) (fun _ _ _ h => h) rfl (by assumption) ?_
          try simp only [Act.put, List.setIfInBounds_toArray, List.set_cons_zero, List.set_cons_succ]
          refine own_skip 18 (some 31) rfl rfl (by kernel_rfl) (fun _ _ _ h => h) rfl (by assumption) ?_
          try simp only [Act.put, List.setIfInBounds_toArray, List.set_cons_zero, List.set_cons_succ]
          refine own_skip 19 (some 32) rfl rfl (by kernel_rfl) (fun _ _ _ h => h) rfl (by assumption) ?_
          try simp only [Act.put, List.setIfInBounds_toArray, List.set_cons_zero, List.set_cons_succ]
          refine own_skip 20 (some 33) rfl rfl (by kernel_rfl) (fun _ _ _ h => h) rfl (by assumption) ?_
          try simp only [Act.put, List.setIfInBounds_toArray, List.set_cons_zero, List.set_cons_succ]
          refine own_skip 21 (some 34) rfl rfl (by kernel_rfl) (fun _ _ _ h => h) rfl (by assumption) ?_
          try simp only [Act.put, List.setIfInBounds_toArray, List.set_cons_zero, List.set_cons_succ]
          refine own_skip 22 (some 35) rfl rfl (by kernel_rfl) (fun _ _ _ h => h) rfl (by assumption) ?_
          try simp only [Act.put, List.setIfInBounds_toArray, List.set_cons_zero, List.set_cons_succ]
          refine own_skip 23 (some 36) rfl rfl (by kernel_rfl) (fun _ _ _ h => h) rfl (by assumption) ?_
          try simp only [Act.put, List.setIfInBounds_toArray, List.set_cons_zero, List.set_cons_succ]
          refine own_skip 24 (some 37) rfl rfl (by kernel_rfl) (fun _ _ _ h => h) rfl (by assumption) ?_
          try simp only [Act.put, List.setIfInBounds_toArray, List.set_cons_zero, List.set_cons_succ]
          refine own_take (v := ?v27) 25 (some 38) rfl rfl (by kernel_rfl) (fun _ _ _ h => h) rfl (by assumption) ?o27 ?_
          case o27 => (intro w hSw; (try dsimp only at hSw); go_simp; try (with_reducible rfl))
          try simp only [Act.put, List.setIfInBounds_toArray, List.set_cons_zero, List.set_cons_succ]
          refine wpAnyH_done (by kernel_rfl) ?_ _
          go_wp2_with fail
          go_ret
          exact ⟨by rw [HT.out]; rfl, below_call hB0 hB0.size (below_call HB9.out HB9.out.size (by go_split_ands; assumption))⟩
        | true =>
          by_cases hid : x.id < g.nextNode
          · have q1 : decide (g.nextNode ≤ x.id) = false := decide_eq_false (by omega)
            have q2 : decide (x.id < g.nextNode) = true := decide_eq_true hid
            have HT := Lib.hid (range_step HN.out (show nodeIn g.nodes g.nextNode 0 = true by rw [HX.out, q2]; rfl))
            refine wp_region_held_drew (S := (fun w' => w'.cell? ⟨wr.heap.size, 0, none⟩ = some (.int .i64 x.id) ∧ w'.cell? ⟨wr.heap.size, 1, none⟩ = some (.slice X1 x.labels.length e1) ∧ w'.cell? ⟨wr.heap.size, 2, none⟩ = some (.slice X2 x.props.length e2) ∧ w'.cell? ⟨w.heap.size, 0, none⟩ = some (.slice (some ⟨b, off, none⟩) g.nodes.length c1) ∧ w'.cell? ⟨w.heap.size, 1, none⟩ = some (.slice A2 g.rels.length c2) ∧ w'.cell? ⟨w.heap.size, 2, none⟩ = some (.int .i64 g.nextNode) ∧ w'.cell? ⟨w.heap.size, 3, none⟩ = some (.int .i64 g.nextRel) ∧ Below W1.heap.size W1 w')) (by kernel_rfl) ?o28 (fun hH0 => ?_)
            case o28 => ((try dsimp only); first | done | (first | (exact KS.out _ (Below.refl _ _)) | (exact KS.out _ (below_drewN (Below.refl _ _) 1)) | (go_split_ands; refine KS.out _ ?_; assumption)))
            refine own_take (v := ?v29) 0 (some 13) rfl rfl (by kernel_rfl) (fun _ _ _ h => h) rfl (by assumption) ?o29 ?_
            case o29 => (intro w hSw; (try dsimp only at hSw); go_simp; try (with_reducible rfl))
            try simp only [Act.put, List.setIfInBounds_toArray, List.set_cons_zero, List.set_cons_succ]
            refine own_step 1 (by kernel_rfl) rfl (fun K hK => ?_)
            go_simp
            (first | (go_at_call 236; refine (HC.out _ ?_).mono ?_; (go_split_ands; assumption); rintro e w1 ⟨rfl, hb1⟩))
            go_wp2_with fail
            refine hK.out _ _ ?o30 (fun hH1 => ?_)
            case o30 => ((try dsimp only); first | done | (first | (exact KS.out _ (Below.refl _ _)) | (exact KS.out _ (below_drewN (Below.refl _ _) 1)) | (go_split_ands; refine KS.out _ ?_; assumption)))
            clear hK K hH0
            try simp only [Act.put, List.setIfInBounds_toArray, List.set_cons_zero, List.set_cons_succ]
            refine own_take (v := ?v31) 2 (some 15) rfl rfl (by kernel_rfl) (fun _ _ _ h => h) rfl (by assumption) ?o31 ?_
            case o31 => (intro w hSw; (try dsimp only at hSw); go_simp; try (with_reducible rfl))
            try simp only [Act.put, List.setIfInBounds_toArray, List.set_cons_zero, List.set_cons_succ]
            refine own_take (v := ?v32) 3 (some 16) rfl rfl (by kernel_rfl) (fun _ _ _ h => h) rfl (by assumption) ?o32 ?_
            case o32 => (intro w hSw; (try dsimp only at hSw); go_simp; try (with_reducible rfl))
            try simp only [Act.put, List.setIfInBounds_toArray, List.set_cons_zero, List.set_cons_succ]
            refine own_take (v := ?v33) 4 (some 17) rfl rfl (by kernel_rfl) (fun _ _ _ h => h) rfl (by assumption) ?o33 ?_
            case o33 => (intro w hSw; (try dsimp only at hSw); go_simp; try (with_reducible rfl))
            try simp only [Act.put, List.setIfInBounds_toArray, List.set_cons_zero, List.set_cons_succ]
            refine own_take (v := ?v34) 5 (some 18) rfl rfl (by kernel_rfl) (fun _ _ _ h => h) rfl (by assumption) ?o34 ?_
            case o34 => (intro w hSw; (try dsimp only at hSw); go_simp; try (with_reducible rfl))
            try simp only [Act.put, List.setIfInBounds_toArray, List.set_cons_zero, List.set_cons_succ]
            refine own_take (v := ?v35) 6 (some 19) rfl rfl (by kernel_rfl) (fun _ _ _ h => h) rfl (by assumption) ?o35 ?_
            case o35 => (intro w hSw; (try dsimp only at hSw); go_simp; try (with_reducible rfl))
            try simp only [Act.put, List.setIfInBounds_toArray, List.set_cons_zero, List.set_cons_succ]
            refine own_take (v := ?v36) 7 (some 20) rfl rfl (by kernel_rfl) (fun _ _ _ h => h) rfl (by assumption) ?o36 ?_
            case o36 => (intro w hSw; (try dsimp only at hSw); go_simp; try (with_reducible rfl))
            try simp only [Act.put, List.setIfInBounds_toArray, List.set_cons_zero, List.set_cons_succ]
            refine own_take (v := ?v37) 8 (some 21) rfl rfl (by kernel_rfl) (fun _ _ _ h => h) rfl (by assumption) ?o37 ?_
            case o37 => (intro w hSw; (try dsimp only at hSw); go_simp; try (with_reducible rfl))
            try simp only [Act.put, List.setIfInBounds_toArray, List.set_cons_zero, List.set_cons_succ]
            refine own_take (v := ?v38) 9 (some 22) rfl rfl (by kernel_rfl) (fun _ _ _ h => h) rfl (by assumption) ?o38 ?_
            case o38 => (intro w hSw; (try dsimp only at hSw); go_simp; try (with_reducible rfl))
            try simp only [Act.put, List.setIfInBounds_toArray, List.set_cons_zero, List.set_cons_succ]
            refine own_take (v := ?v39) 10 (some 23) rfl rfl (by kernel_rfl) (fun _ _ _ h => h) rfl (by assumption) ?o39 ?_
            case o39 => (intro w hSw; (try dsimp only at hSw); go_simp; try (with_reducible rfl))
            try simp only [Act.put, List.setIfInBounds_toArray, List.set_cons_zero, List.set_cons_succ]
            refine own_take (v := ?v40) 11 (some 24) rfl rfl (by kernel_rfl) (fun _ _ _ h => h) rfl (by assumption) ?o40 ?_
            case o40 => (intro w hSw; (try dsimp only at hSw); go_simp; try (with_reducible rfl))
            try simp only [Act.put, List.setIfInBounds_toArray, List.set_cons_zero, List.set_cons_succ]
            refine own_take (v := ?v41) 12 (some 25) rfl rfl (by kernel_rfl) (fun _ _ _ h => h) rfl (by assumption) ?o41 ?_
            case o41 => (intro w hSw; (try dsimp only at hSw); go_simp; try (with_reducible rfl))
            try simp only [Act.put, List.setIfInBounds_toArray, List.set_cons_zero, List.set_cons_succ]
            refine own_take (v := ?v42) 13 (some 26) rfl rfl (by kernel_rfl) (fun _ _ _ h => h) rfl (by assumption) ?o42 ?_
            case o42 => (intro w hSw; (try dsimp only at hSw); go_simp; try (with_reducible rfl))
            try simp only [Act.put, List.setIfInBounds_toArray, List.set_cons_zero, List.set_cons_succ]
            refine own_skip 14 (some 27) rfl rfl (by kernel_rfl) (fun _ _ _ h => h) rfl (by assumption) ?_
            try simp only [Act.put, List.setIfInBounds_toArray, List.set_cons_zero, List.set_cons_succ]
            refine own_skip 15 (some 28) rfl rfl (by kernel_rfl) (fun _ _ _ h => h) rfl (by assumption) ?_
            try simp only [Act.put, List.setIfInBounds_toArray, List.set_cons_zero, List.set_cons_succ]
            refine own_skip 16 (some 29) rfl rfl (by kernel_rfl) (fun _ _ _ h => h) rfl (by assumption) ?_
            try simp only [Act.put, List.setIfInBounds_toArray, List.set_cons_zero, List.set_cons_succ]
            refine own_skip 17 (some 30) rfl rfl (by kernel_rfl) (fun _ _ _ h => h) rfl (by assumption) ?_
            try simp only [Act.put, List.setIfInBounds_toArray, List.set_cons_zero, List.set_cons_succ]
            refine own_skip 18 (some 31) rfl rfl (by kernel_rfl) (fun _ _ _ h => h) rfl (by assumption) ?_
            try simp only [Act.put, List.setIfInBounds_toArray, List.set_cons_zero, List.set_cons_succ]
            refine own_skip 19 (some 32) rfl rfl (by kernel_rfl) (fun _ _ _ h => h) rfl (by assumption) ?_
            try simp only [Act.put, List.setIfInBounds_toArray, List.set_cons_zero, List.set_cons_succ]
            refine own_skip 20 (some 33) rfl rfl (by kernel_rfl) (fun _ _ _ h => h) rfl (by assumption) ?_
            try simp only [Act.put, List.setIfInBounds_toArray, List.set_cons_zero, List.set_cons_succ]
            refine own_skip 21 (some 34) rfl rfl (by kernel_rfl) (fun _ _ _ h => h) rfl (by assumption) ?_
            try simp only [Act.put, List.setIfInBounds_toArray, List.set_cons_zero, List.set_cons_succ]
            refine own_skip 22 (some 35) rfl rfl (by kernel_rfl) (fun _ _ _ h => h) rfl (by assumption) ?_
            try simp only [Act.put, List.setIfInBounds_toArray, List.set_cons_zero, List.set_cons_succ]
            refine own_skip 23 (some 36) rfl rfl (by kernel_rfl) (fun _ _ _ h => h) rfl (by assumption) ?_
            try simp only [Act.put, List.setIfInBounds_toArray, List.set_cons_zero, List.set_cons_succ]
            refine own_take (v := ?v53) 24 (some 37) rfl rfl (by kernel_rfl) (fun _ _ _ h => h) rfl (by assumption) ?o53 ?_
            case o53 => (intro w hSw; (try dsimp only at hSw); go_simp; try (with_reducible rfl))
            try simp only [Act.put, List.setIfInBounds_toArray, List.set_cons_zero, List.set_cons_succ]
            refine own_take (v := ?v54) 25 (some 38) rfl rfl (by kernel_rfl) (fun _ _ _ h => h) rfl (by assumption) ?o54 ?_
            case o54 => (intro w hSw; (try dsimp only at hSw); go_simp; try (with_reducible rfl))
            try simp only [Act.put, List.setIfInBounds_toArray, List.set_cons_zero, List.set_cons_succ]
            refine wpAnyH_done (by kernel_rfl) ?_ _
            go_wp2_with fail
            go_roundw
            case rel => exact ⟨0 + 1, by omega, by go_num, HT, below_call HB9.out HB9.out.size (by go_split_ands; assumption)⟩
            case measure => simp [intOf]; omega
          · have q1 : decide (g.nextNode ≤ x.id) = true := decide_eq_true (by omega)
            have q2 : decide (x.id < g.nextNode) = false := decide_eq_false hid
            have HT := Lib.hid (show r = false by rw [← HR.out]; exact range_not (by rw [HX.out, q2]; rfl) hlt)
            refine wp_region_held_drew (S := (fun w' => w'.cell? ⟨wr.heap.size, 0, none⟩ = some (.int .i64 x.id) ∧ w'.cell? ⟨wr.heap.size, 1, none⟩ = some (.slice X1 x.labels.length e1) ∧ w'.cell? ⟨wr.heap.size, 2, none⟩ = some (.slice X2 x.props.length e2) ∧ w'.cell? ⟨w.heap.size, 0, none⟩ = some (.slice (some ⟨b, off, none⟩) g.nodes.length c1) ∧ w'.cell? ⟨w.heap.size, 1, none⟩ = some (.slice A2 g.rels.length c2) ∧ w'.cell? ⟨w.heap.size, 2, none⟩ = some (.int .i64 g.nextNode) ∧ w'.cell? ⟨w.heap.size, 3, none⟩ = some (.int .i64 g.nextRel) ∧ Below W1.heap.size W1 w')) (by kernel_rfl) ?o55 (fun hH0 => ?_)
            case o55 => ((try dsimp only); first | done | (first | (exact KS.out _ (Below.refl _ _)) | (exact KS.out _ (below_drewN (Below.refl _ _) 1)) | (go_split_ands; refine KS.out _ ?_; assumption)))
            refine own_take (v := ?v56) 0 (some 13) rfl rfl (by kernel_rfl) (fun _ _ _ h => h) rfl (by assumption) ?o56 ?_
            case o56 => (intro w hSw; (try dsimp only at hSw); go_simp; try (with_reducible rfl))
            try simp only [Act.put, List.setIfInBounds_toArray, List.set_cons_zero, List.set_cons_succ]
            refine own_step 1 (by kernel_rfl) rfl (fun K hK => ?_)
            go_simp
            (first | (go_at_call 236; refine (HC.out _ ?_).mono ?_; (go_split_ands; assumption); rintro e w1 ⟨rfl, hb1⟩))
            go_wp2_with fail
            refine hK.out _ _ ?o57 (fun hH1 => ?_)
            case o57 => ((try dsimp only); first | done | (first | (exact KS.out _ (Below.refl _ _)) | (exact KS.out _ (below_drewN (Below.refl _ _) 1)) | (go_split_ands; refine KS.out _ ?_; assumption)))
            clear hK K hH0
            try simp only [Act.put, List.setIfInBounds_toArray, List.set_cons_zero, List.set_cons_succ]
            refine own_take (v := ?v58) 2 (some 15) rfl rfl (by kernel_rfl) (fun _ _ _ h => h) rfl (by assumption) ?o58 ?_
            case o58 => (intro w hSw; (try dsimp only at hSw); go_simp; try (with_reducible rfl))
            try simp only [Act.put, List.setIfInBounds_toArray, List.set_cons_zero, List.set_cons_succ]
            refine own_take (v := ?v59) 3 (some 16) rfl rfl (by kernel_rfl) (fun _ _ _ h => h) rfl (by assumption) ?o59 ?_
            case o59 => (intro w hSw; (try dsimp only at hSw); go_simp; try (with_reducible rfl))
            try simp only [Act.put, List.setIfInBounds_toArray, List.set_cons_zero, List.set_cons_succ]
            refine own_take (v := ?v60) 4 (some 17) rfl rfl (by kernel_rfl) (fun _ _ _ h => h) rfl (by assumption) ?o60 ?_
            case o60 => (intro w hSw; (try dsimp only at hSw); go_simp; try (with_reducible rfl))
            try simp only [Act.put, List.setIfInBounds_toArray, List.set_cons_zero, List.set_cons_succ]
            refine own_take (v := ?v61) 5 (some 18) rfl rfl (by kernel_rfl) (fun _ _ _ h => h) rfl (by assumption) ?o61 ?_
            case o61 => (intro w hSw; (try dsimp only at hSw); go_simp; try (with_reducible rfl))
            try simp only [Act.put, List.setIfInBounds_toArray, List.set_cons_zero, List.set_cons_succ]
            refine own_take (v := ?v62) 6 (some 19) rfl rfl (by kernel_rfl) (fun _ _ _ h => h) rfl (by assumption) ?o62 ?_
            case o62 => (intro w hSw; (try dsimp only at hSw); go_simp; try (with_reducible rfl))
            try simp only [Act.put, List.setIfInBounds_toArray, List.set_cons_zero, List.set_cons_succ]
            refine own_take (v := ?v63) 7 (some 20) rfl rfl (by kernel_rfl) (fun _ _ _ h => h) rfl (by assumption) ?o63 ?_
            case o63 => (intro w hSw; (try dsimp only at hSw); go_simp; try (with_reducible rfl))
            try simp only [Act.put, List.setIfInBounds_toArray, List.set_cons_zero, List.set_cons_succ]
            refine own_take (v := ?v64) 8 (some 21) rfl rfl (by kernel_rfl) (fun _ _ _ h => h) rfl (by assumption) ?o64 ?_
            case o64 => (intro w hSw; (try dsimp only at hSw); go_simp; try (with_reducible rfl))
            try simp only [Act.put, List.setIfInBounds_toArray, List.set_cons_zero, List.set_cons_succ]
            refine own_take (v := ?v65) 9 (some 22) rfl rfl (by kernel_rfl) (fun _ _ _ h => h) rfl (by assumption) ?o65 ?_
            case o65 => (intro w hSw; (try dsimp only at hSw); go_simp; try (with_reducible rfl))
            try simp only [Act.put, List.setIfInBounds_toArray, List.set_cons_zero, List.set_cons_succ]
            refine own_take (v := ?v66) 10 (some 23) rfl rfl (by kernel_rfl) (fun _ _ _ h => h) rfl (by assumption) ?o66 ?_
            case o66 => (intro w hSw; (try dsimp only at hSw); go_simp; try (with_reducible rfl))
            try simp only [Act.put, List.setIfInBounds_toArray, List.set_cons_zero, List.set_cons_succ]
            refine own_skip 11 (some 24) rfl rfl (by kernel_rfl) (fun _ _ _ h => h) rfl (by assumption) ?_
            try simp only [Act.put, List.setIfInBounds_toArray, List.set_cons_zero, List.set_cons_succ]
            refine own_skip 12 (some 25) rfl rfl (by kernel_rfl) (fun _ _ _ h => h) rfl (by assumption) ?_
            try simp only [Act.put, List.setIfInBounds_toArray, List.set_cons_zero, List.set_cons_succ]
            refine own_skip 13 (some 26) rfl rfl (by kernel_rfl) (fun _ _ _ h => h) rfl (by assumption) ?_
            try simp only [Act.put, List.setIfInBounds_toArray, List.set_cons_zero, List.set_cons_succ]
            refine own_skip 14 (some 27) rfl rfl (by kernel_rfl) (fun _ _ _ h => h) rfl (by assumption) ?_
            try simp only [Act.put, List.setIfInBounds_toArray, List.set_cons_zero, List.set_cons_succ]
            refine own_skip 15 (some 28) rfl rfl (by kernel_rfl) (fun _ _ _ h => h) rfl (by assumption) ?_
            try simp only [Act.put, List.setIfInBounds_toArray, List.set_cons_zero, List.set_cons_succ]
            refine own_skip 16 (some 29) rfl rfl (by kernel_rfl) (fun _ _ _ h => h) rfl (by assumption) ?_
            try simp only [Act.put, List.setIfInBounds_toArray, List.set_cons_zero, List.set_cons_succ]
            refine own_skip 17 (some 30) rfl rfl (by kernel_rfl) (fun _ _ _ h => h) rfl (by assumption) ?_
            try simp only [Act.put, List.setIfInBounds_toArray, List.set_cons_zero, List.set_cons_succ]
            refine own_skip 18 (some 31) rfl rfl (by kernel_rfl) (fun _ _ _ h => h) rfl (by assumption) ?_
            try simp only [Act.put, List.setIfInBounds_toArray, List.set_cons_zero, List.set_cons_succ]
            refine own_skip 19 (some 32) rfl rfl (by kernel_rfl) (fun _ _ _ h => h) rfl (by assumption) ?_
            try simp only [Act.put, List.setIfInBounds_toArray, List.set_cons_zero, List.set_cons_succ]
            refine own_skip 20 (some 33) rfl rfl (by kernel_rfl) (fun _ _ _ h => h) rfl (by assumption) ?_
            try simp only [Act.put, List.setIfInBounds_toArray, List.set_cons_zero, List.set_cons_succ]
            refine own_skip 21 (some 34) rfl rfl (by kernel_rfl) (fun _ _ _ h => h) rfl (by assumption) ?_
            try simp only [Act.put, List.setIfInBounds_toArray, List.set_cons_zero, List.set_cons_succ]
            refine own_skip 22 (some 35) rfl rfl (by kernel_rfl) (fun _ _ _ h => h) rfl (by assumption) ?_
            try simp only [Act.put, List.setIfInBounds_toArray, List.set_cons_zero, List.set_cons_succ]
            refine own_skip 23 (some 36) rfl rfl (by kernel_rfl) (fun _ _ _ h => h) rfl (by assumption) ?_
            try simp only [Act.put, List.setIfInBounds_toArray, List.set_cons_zero, List.set_cons_succ]
            refine own_skip 24 (some 37) rfl rfl (by kernel_rfl) (fun _ _ _ h => h) rfl (by assumption) ?_
            try simp only [Act.put, List.setIfInBounds_toArray, List.set_cons_zero, List.set_cons_succ]
            refine own_take (v := ?v81) 25 (some 38) rfl rfl (by kernel_rfl) (fun _ _ _ h => h) rfl (by assumption) ?o81 ?_
            case o81 => (intro w hSw; (try dsimp only at hSw); go_simp; try (with_reducible rfl))
            try simp only [Act.put, List.setIfInBounds_toArray, List.set_cons_zero, List.set_cons_succ]
            refine wpAnyH_done (by kernel_rfl) ?_ _
            go_wp2_with fail
            go_ret
            exact ⟨by rw [HT.out]; rfl, below_call hB0 hB0.size (below_call HB9.out HB9.out.size (by go_split_ands; assumption))⟩
      | succ m =>
        simp only [Nat.add_sub_cancel] at HX
        obtain ⟨pid, HPID⟩ : ∃ q, Hid ((nAt g.nodes m).id = q) := ⟨_, Lib.hid rfl⟩
        have HPV' := HPV.out m rfl
        rw [HPID.out] at HX HPV'
        have HPW := Lib.hid HPV'
        clear HPV HPV'
        have KS := Lib.hid (show ∀ w', Below W1.heap.size W1 w' → w'.cell? ⟨wr.heap.size, 0, none⟩ = some (.int .i64 x.id) ∧ w'.cell? ⟨wr.heap.size, 1, none⟩ = some (.slice X1 x.labels.length e1) ∧ w'.cell? ⟨wr.heap.size, 2, none⟩ = some (.slice X2 x.props.length e2) ∧ w'.cell? ⟨w.heap.size, 0, none⟩ = some (.slice (some ⟨b, off, none⟩) g.nodes.length c1) ∧ w'.cell? ⟨w.heap.size, 1, none⟩ = some (.slice A2 g.rels.length c2) ∧ w'.cell? ⟨w.heap.size, 2, none⟩ = some (.int .i64 g.nextNode) ∧ w'.cell? ⟨w.heap.size, 3, none⟩ = some (.int .i64 g.nextRel) ∧ w'.cell? ⟨b, off + m * 3, none⟩ = some (.int .i64 pid) ∧ Below W1.heap.size W1 w' from fun w' hb => by
          have z := HPW.out w' (below_call hB1 hB1.size hb)
          exact ⟨(bx.below hb).rd.1 0, (bx.below hb).rd.1 1, (bx.below hb).rd.1 2, (b2.below hb).rd.1 0, (b2.below hb).rd.1 1, (b2.below hb).rd.1 2, (b2.below hb).rd.1 3, z, hb⟩)
        obtain ⟨m1, m2, m3, m4, m5, m6, m7, m8, m9⟩ := KS.out W1 (Below.refl _ _)
        clear bx b2 hWx hB1 HPW m9
        have hw := Lib.hid (show IntKind.i64.wrap ((m : Int) + 1 - 1) = (m : Int) by rw [show (m : Int) + 1 - 1 = (m : Int) by omega]; exact IntWalk.i64_in _ (by omega))
        have hw2_ := Lib.hid (show IntKind.i64.wrap (m : Int) = (m : Int) from IntWalk.i64_in _ (by omega))
        have hltm : m < g.nodes.length := by omega
        have q0 : decide ((0 : Int) < (m : Int) + 1) = true := decide_eq_true (by omega)
        cases ok with
        | false =>
          have HT := Lib.hid (show r = false by rw [← HR.out]; exact range_not (by rw [HX.out]; rfl) hlt)
          have hw' := hw.out
          have hw2 := hw2_.out
          refine wp_region_held_drew (S := (fun w' => w'.cell? ⟨wr.heap.size, 0, none⟩ = some (.int .i64 x.id) ∧ w'.cell? ⟨wr.heap.size, 1, none⟩ = some (.slice X1 x.labels.length e1) ∧ w'.cell? ⟨wr.heap.size, 2, none⟩ = some (.slice X2 x.props.length e2) ∧ w'.cell? ⟨w.heap.size, 0, none⟩ = some (.slice (some ⟨b, off, none⟩) g.nodes.length c1) ∧ w'.cell? ⟨w.heap.size, 1, none⟩ = some (.slice A2 g.rels.length c2) ∧ w'.cell? ⟨w.heap.size, 2, none⟩ = some (.int .i64 g.nextNode) ∧ w'.cell? ⟨w.heap.size, 3, none⟩ = some (.int .i64 g.nextRel) ∧ w'.cell? ⟨b, off + m * 3, none⟩ = some (.int .i64 pid) ∧ Below W1.heap.size W1 w')) (by kernel_rfl) ?o82 (fun hH0 => ?_)
          case o82 => ((try dsimp only); first | done | (first | (exact KS.out _ (Below.refl _ _)) | (exact KS.out _ (below_drewN (Below.refl _ _) 1)) | (go_split_ands; refine KS.out _ ?_; assumption)))
          refine own_take (v := ?v83) 0 (some 13) rfl rfl (by kernel_rfl) (fun _ _ _ h => h) rfl (by assumption) ?o83 ?_
          case o83 => (intro w hSw; (try dsimp only at hSw); go_simp; try (with_reducible rfl))
          try simp only [Act.put, List.setIfInBounds_toArray, List.set_cons_zero, List.set_cons_succ]
          refine own_step 1 (by kernel_rfl) rfl (fun K hK => ?_)
          go_simp
          (first | (go_at_call 236; refine (HC.out _ ?_).mono ?_; (go_split_ands; assumption); rintro e w1 ⟨rfl, hb1⟩))
          go_wp2_with fail
          refine hK.out _ _ ?o84 (fun hH1 => ?_)
          case o84 => ((try dsimp only); first | done | (first | (exact KS.out _ (Below.refl _ _)) | (exact KS.out _ (below_drewN (Below.refl _ _) 1)) | (go_split_ands; refine KS.out _ ?_; assumption)))
          clear hK K hH0
          try simp only [Act.put, List.setIfInBounds_toArray, List.set_cons_zero, List.set_cons_succ]
          refine own_take (v := ?v85) 2 (some 15) rfl rfl (by kernel_rfl) (fun _ _ _ h => h) rfl (by assumption) ?o85 ?_
          case o85 => (intro w hSw; (try dsimp only at hSw); go_simp; try (with_reducible rfl))
          try simp only [Act.put, List.setIfInBounds_toArray, List.set_cons_zero, List.set_cons_succ]
          refine own_take (v := ?v86) 3 (some 16) rfl rfl (by kernel_rfl) (fun _ _ _ h => h) rfl (by assumption) ?o86 ?_
          case o86 => (intro w hSw; (try dsimp only at hSw); go_simp; try (with_reducible rfl))
          try simp only [Act.put, List.setIfInBounds_toArray, List.set_cons_zero, List.set_cons_succ]
          refine own_skip 4 (some 17) rfl rfl (by kernel_rfl) (fun _ _ _ h => h) rfl (by assumption) ?_
          try simp only [Act.put, List.setIfInBounds_toArray, List.set_cons_zero, List.set_cons_succ]
          refine own_skip 5 (some 18) rfl rfl (by kernel_rfl) (fun _ _ _ h => h) rfl (by assumption) ?_
          try simp only [Act.put, List.setIfInBounds_toArray, List.set_cons_zero, List.set_cons_succ]
          refine own_skip 6 (some 19) rfl rfl (by kernel_rfl) (fun _ _ _ h => h) rfl (by assumption) ?_
          try simp only [Act.put, List.setIfInBounds_toArray, List.set_cons_zero, List.set_cons_succ]
          refine own_skip 7 (some 20) rfl rfl (by kernel_rfl) (fun _ _ _ h => h) rfl (by assumption) ?_
          try simp only [Act.put, List.setIfInBounds_toArray, List.set_cons_zero, List.set_cons_succ]
          refine own_skip 8 (some 21) rfl rfl (by kernel_rfl) (fun _ _ _ h => h) rfl (by assumption) ?_
          try simp only [Act.put, List.setIfInBounds_toArray, List.set_cons_zero, List.set_cons_succ]
          refine own_take (v := ?v92) 9 (some 22) rfl rfl (by kernel_rfl) (fun _ _ _ h => h) rfl (by assumption) ?o92 ?_
          case o92 => (intro w hSw; (try dsimp only at hSw); go_simp; try (with_reducible rfl))
          try simp only [Act.put, List.setIfInBounds_toArray, List.set_cons_zero, List.set_cons_succ]
          refine own_take (v := ?v93) 10 (some 23) rfl rfl (by kernel_rfl) (fun _ _ _ h => h) rfl (by assumption) ?o93 ?_
          case o93 => (intro w hSw; (try dsimp only at hSw); go_simp; try (with_reducible rfl))
          try simp only [Act.put, List.setIfInBounds_toArray, List.set_cons_zero, List.set_cons_succ]
          refine own_skip 11 (some 24) rfl rfl (by kernel_rfl) (fun _ _ _ h => h) rfl (by assumption) ?_
          try simp only [Act.put, List.setIfInBounds_toArray, List.set_cons_zero, List.set_cons_succ]
          refine own_skip 12 (some 25) rfl rfl (by kernel_rfl) (fun _ _ _ h => h) rfl (by assumption) ?_
          try simp only [Act.put, List.setIfInBounds_toArray, List.set_cons_zero, List.set_cons_succ]
          refine own_skip 13 (some 26) rfl rfl (by kernel_rfl) (fun _ _ _ h => h) rfl (by assumption) ?_
          try simp only [Act.put, List.setIfInBounds_toArray, List.set_cons_zero, List.set_cons_succ]
          refine own_skip 14 (some 27) rfl rfl (by kernel_rfl) (fun _ _ _ h => h) rfl (by assumption) ?_
          try simp only [Act.put, List.setIfInBounds_toArray, List.set_cons_zero, List.set_cons_succ]
          refine own_skip 15 (some 28) rfl rfl (by kernel_rfl) (fun _ _ _ h => h) rfl (by assumption) ?_
          try simp only [Act.put, List.setIfInBounds_toArray, List.set_cons_zero, List.set_cons_succ]
          refine own_skip 16 (some 29) rfl rfl (by kernel_rfl) (fun _ _ _ h => h) rfl (by assumption) ?_
          try simp only [Act.put, List.setIfInBounds_toArray, List.set_cons_zero, List.set_cons_succ]
          refine own_skip 17 (some 30) rfl rfl (by kernel_rfl) (fun _ _ _ h => h) rfl (by assumption) ?_
          try simp only [Act.put, List.setIfInBounds_toArray, List.set_cons_zero, List.set_cons_succ]
          refine own_skip 18 (some 31) rfl rfl (by kernel_rfl) (fun _ _ _ h => h) rfl (by assumption) ?_
          try simp only [Act.put, List.setIfInBounds_toArray, List.set_cons_zero, List.set_cons_succ]
          refine own_skip 19 (some 32) rfl rfl (by kernel_rfl) (fun _ _ _ h => h) rfl (by assumption) ?_
          try simp only [Act.put, List.setIfInBounds_toArray, List.set_cons_zero, List.set_cons_succ]
          refine own_skip 20 (some 33) rfl rfl (by kernel_rfl) (fun _ _ _ h => h) rfl (by assumption) ?_
          try simp only [Act.put, List.setIfInBounds_toArray, List.set_cons_zero, List.set_cons_succ]
          refine own_skip 21 (some 34) rfl rfl (by kernel_rfl) (fun _ _ _ h => h) rfl (by assumption) ?_
          try simp only [Act.put, List.setIfInBounds_toArray, List.set_cons_zero, List.set_cons_succ]
          refine own_skip 22 (some 35) rfl rfl (by kernel_rfl) (fun _ _ _ h => h) rfl (by assumption) ?_
          try simp only [Act.put, List.setIfInBounds_toArray, List.set_cons_zero, List.set_cons_succ]
          refine own_skip 23 (some 36) rfl rfl (by kernel_rfl) (fun _ _ _ h => h) rfl (by assumption) ?_
          try simp only [Act.put, List.setIfInBounds_toArray, List.set_cons_zero, List.set_cons_succ]
          refine own_skip 24 (some 37) rfl rfl (by kernel_rfl) (fun _ _ _ h => h) rfl (by assumption) ?_
          try simp only [Act.put, List.setIfInBounds_toArray, List.set_cons_zero, List.set_cons_succ]
          refine own_take (v := ?v108) 25 (some 38) rfl rfl (by kernel_rfl) (fun _ _ _ h => h) rfl (by assumption) ?o108 ?_
          case o108 => (intro w hSw; (try dsimp only at hSw); go_simp; try (with_reducible rfl))
          try simp only [Act.put, List.setIfInBounds_toArray, List.set_cons_zero, List.set_cons_succ]
          refine wpAnyH_done (by kernel_rfl) ?_ _
          go_wp2_with fail
          go_ret
          exact ⟨by rw [HT.out]; rfl, below_call hB0 hB0.size (below_call HB9.out HB9.out.size (by go_split_ands; assumption))⟩
        | true =>
          by_cases hid : x.id < g.nextNode
          · have q1 : decide (g.nextNode ≤ x.id) = false := decide_eq_false (by omega)
            have q2 : decide (x.id < g.nextNode) = true := decide_eq_true hid
            by_cases hpd : pid < x.id
            · have q3 : decide (x.id ≤ pid) = false := decide_eq_false (by omega)
              have q4 : decide (pid < x.id) = true := decide_eq_true hpd
              have HT := Lib.hid (range_step HN.out (show nodeIn g.nodes g.nextNode (m + 1) = true by rw [HX.out, q2, q4]; simp))
              have hw' := hw.out
              have hw2 := hw2_.out
              refine wp_region_held_drew (S := (fun w' => w'.cell? ⟨wr.heap.size, 0, none⟩ = some (.int .i64 x.id) ∧ w'.cell? ⟨wr.heap.size, 1, none⟩ = some (.slice X1 x.labels.length e1) ∧ w'.cell? ⟨wr.heap.size, 2, none⟩ = some (.slice X2 x.props.length e2) ∧ w'.cell? ⟨w.heap.size, 0, none⟩ = some (.slice (some ⟨b, off, none⟩) g.nodes.length c1) ∧ w'.cell? ⟨w.heap.size, 1, none⟩ = some (.slice A2 g.rels.length c2) ∧ w'.cell? ⟨w.heap.size, 2, none⟩ = some (.int .i64 g.nextNode) ∧ w'.cell? ⟨w.heap.size, 3, none⟩ = some (.int .i64 g.nextRel) ∧ w'.cell? ⟨b, off + m * 3, none⟩ = some (.int .i64 pid) ∧ Below W1.heap.size W1 w')) (by kernel_rfl) ?o109 (fun hH0 => ?_)
              case o109 => ((try dsimp only); first | done | (first | (exact KS.out _ (Below.refl _ _)) | (exact KS.out _ (below_drewN (Below.refl _ _) 1)) | (go_split_ands; refine KS.out _ ?_; assumption)))
              refine own_take (v := ?v110) 0 (some 13) rfl rfl (by kernel_rfl) (fun _ _ _ h => h) rfl (by assumption) ?o110 ?_
              case o110 => (intro w hSw; (try dsimp only at hSw); go_simp; try (with_reducible rfl))
              try simp only [Act.put, List.setIfInBounds_toArray, List.set_cons_zero, List.set_cons_succ]
              refine own_step 1 (by kernel_rfl) rfl (fun K hK => ?_)
              go_simp
              (first | (go_at_call 236; refine (HC.out _ ?_).mono ?_; (go_split_ands; assumption); rintro e w1 ⟨rfl, hb1⟩))
              go_wp2_with fail
              refine hK.out _ _ ?o111 (fun hH1 => ?_)
              case o111 => ((try dsimp only); first | done | (first | (exact KS.out _ (Below.refl _ _)) | (exact KS.out _ (below_drewN (Below.refl _ _) 1)) | (go_split_ands; refine KS.out _ ?_; assumption)))
              clear hK K hH0
              try simp only [Act.put, List.setIfInBounds_toArray, List.set_cons_zero, List.set_cons_succ]
              refine own_take (v := ?v112) 2 (some 15) rfl rfl (by kernel_rfl) (fun _ _ _ h => h) rfl (by assumption) ?o112 ?_
              case o112 => (intro w hSw; (try dsimp only at hSw); go_simp; try (with_reducible rfl))
              try simp only [Act.put, List.setIfInBounds_toArray, List.set_cons_zero, List.set_cons_succ]
              refine own_take (v := ?v113) 3 (some 16) rfl rfl (by kernel_rfl) (fun _ _ _ h => h) rfl (by assumption) ?o113 ?_
              case o113 => (intro w hSw; (try dsimp only at hSw); go_simp; try (with_reducible rfl))
              try simp only [Act.put, List.setIfInBounds_toArray, List.set_cons_zero, List.set_cons_succ]
              refine own_take (v := ?v114) 4 (some 17) rfl rfl (by kernel_rfl) (fun _ _ _ h => h) rfl (by assumption) ?o114 ?_
              case o114 => (intro w hSw; (try dsimp only at hSw); go_simp; try (with_reducible rfl))
              try simp only [Act.put, List.setIfInBounds_toArray, List.set_cons_zero, List.set_cons_succ]
              refine own_take (v := ?v115) 5 (some 18) rfl rfl (by kernel_rfl) (fun _ _ _ h => h) rfl (by assumption) ?o115 ?_
              case o115 => (intro w hSw; (try dsimp only at hSw); go_simp; try (with_reducible rfl))
              try simp only [Act.put, List.setIfInBounds_toArray, List.set_cons_zero, List.set_cons_succ]
              refine own_take (v := ?v116) 6 (some 19) rfl rfl (by kernel_rfl) (fun _ _ _ h => h) rfl (by assumption) ?o116 ?_
              case o116 => (intro w hSw; (try dsimp only at hSw); go_simp; try (with_reducible rfl))
              try simp only [Act.put, List.setIfInBounds_toArray, List.set_cons_zero, List.set_cons_succ]
              refine own_take (v := ?v117) 7 (some 20) rfl rfl (by kernel_rfl) (fun _ _ _ h => h) rfl (by assumption) ?o117 ?_
              case o117 => (intro w hSw; (try dsimp only at hSw); go_simp; try (with_reducible rfl))
              try simp only [Act.put, List.setIfInBounds_toArray, List.set_cons_zero, List.set_cons_succ]
              refine own_take (v := ?v118) 8 (some 21) rfl rfl (by kernel_rfl) (fun _ _ _ h => h) rfl (by assumption) ?o118 ?_
              case o118 => (intro w hSw; (try dsimp only at hSw); go_simp; try (with_reducible rfl))
              try simp only [Act.put, List.setIfInBounds_toArray, List.set_cons_zero, List.set_cons_succ]
              refine own_take (v := ?v119) 9 (some 22) rfl rfl (by kernel_rfl) (fun _ _ _ h => h) rfl (by assumption) ?o119 ?_
              case o119 => (intro w hSw; (try dsimp only at hSw); go_simp; try (with_reducible rfl))
              try simp only [Act.put, List.setIfInBounds_toArray, List.set_cons_zero, List.set_cons_succ]
              refine own_take (v := ?v120) 10 (some 23) rfl rfl (by kernel_rfl) (fun _ _ _ h => h) rfl (by assumption) ?o120 ?_
              case o120 => (intro w hSw; (try dsimp only at hSw); go_simp; try (with_reducible rfl))
              try simp only [Act.put, List.setIfInBounds_toArray, List.set_cons_zero, List.set_cons_succ]
              refine own_take (v := ?v121) 11 (some 24) rfl rfl (by kernel_rfl) (fun _ _ _ h => h) rfl (by assumption) ?o121 ?_
              case o121 => (intro w hSw; (try dsimp only at hSw); go_simp; try (with_reducible rfl))
              try simp only [Act.put, List.setIfInBounds_toArray, List.set_cons_zero, List.set_cons_succ]
              refine own_take (v := ?v122) 12 (some 25) rfl rfl (by kernel_rfl) (fun _ _ _ h => h) rfl (by assumption) ?o122 ?_
              case o122 => (intro w hSw; (try dsimp only at hSw); go_simp; try (with_reducible rfl))
              try simp only [Act.put, List.setIfInBounds_toArray, List.set_cons_zero, List.set_cons_succ]
              refine own_take (v := ?v123) 13 (some 26) rfl rfl (by kernel_rfl) (fun _ _ _ h => h) rfl (by assumption) ?o123 ?_
              case o123 => (intro w hSw; (try dsimp only at hSw); go_simp; try (with_reducible rfl))
              try simp only [Act.put, List.setIfInBounds_toArray, List.set_cons_zero, List.set_cons_succ]
              refine own_take (v := ?v124) 14 (some 27) rfl rfl (by kernel_rfl) (fun _ _ _ h => h) rfl (by assumption) ?o124 ?_
              case o124 => (intro w hSw; (try dsimp only at hSw); go_simp; try (with_reducible rfl))
              try simp only [Act.put, List.setIfInBounds_toArray, List.set_cons_zero, List.set_cons_succ]
              refine own_take (v := ?v125) 15 (some 28) rfl rfl (by kernel_rfl) (fun _ _ _ h => h) rfl (by assumption) ?o125 ?_
              case o125 => (intro w hSw; (try dsimp only at hSw); go_simp; try (with_reducible rfl))
              try simp only [Act.put, List.setIfInBounds_toArray, List.set_cons_zero, List.set_cons_succ]
              refine own_take (v := ?v126) 16 (some 29) rfl rfl (by kernel_rfl) (fun _ _ _ h => h) rfl (by assumption) ?o126 ?_
              case o126 => (intro w hSw; (try dsimp only at hSw); go_simp; try (with_reducible rfl))
              try simp only [Act.put, List.setIfInBounds_toArray, List.set_cons_zero, List.set_cons_succ]
              refine own_take (v := ?v127) 17 (some 30) rfl rfl (by kernel_rfl) (fun _ _ _ h => h) rfl (by assumption) ?o127 ?_
              case o127 => (intro w hSw; (try dsimp only at hSw); go_simp; try (with_reducible rfl))
              try simp only [Act.put, List.setIfInBounds_toArray, List.set_cons_zero, List.set_cons_succ]
              refine own_take (v := ?v128) 18 (some 31) rfl rfl (by kernel_rfl) (fun _ _ _ h => h) rfl (by assumption) ?o128 ?_
              case o128 => (intro w hSw; (try dsimp only at hSw); go_simp; try (with_reducible rfl))
              try simp only [Act.put, List.setIfInBounds_toArray, List.set_cons_zero, List.set_cons_succ]
              refine own_take (v := ?v129) 19 (some 32) rfl rfl (by kernel_rfl) (fun _ _ _ h => h) rfl (by assumption) ?o129 ?_
              case o129 => (intro w hSw; (try dsimp only at hSw); go_simp; try (with_reducible rfl))
              try simp only [Act.put, List.setIfInBounds_toArray, List.set_cons_zero, List.set_cons_succ]
              refine own_take (v := ?v130) 20 (some 33) rfl rfl (by kernel_rfl) (fun _ _ _ h => h) rfl (by assumption) ?o130 ?_
              case o130 => (intro w hSw; (try dsimp only at hSw); go_simp; try (with_reducible rfl))
              try simp only [Act.put, List.setIfInBounds_toArray, List.set_cons_zero, List.set_cons_succ]
              refine own_take (v := ?v131) 21 (some 34) rfl rfl (by kernel_rfl) (fun _ _ _ h => h) rfl (by assumption) ?o131 ?_
              case o131 => (intro w hSw; (try dsimp only at hSw); go_simp; try (with_reducible rfl))
              try simp only [Act.put, List.setIfInBounds_toArray, List.set_cons_zero, List.set_cons_succ]
              refine own_take (v := ?v132) 22 (some 35) rfl rfl (by kernel_rfl) (fun _ _ _ h => h) rfl (by assumption) ?o132 ?_
              case o132 => (intro w hSw; (try dsimp only at hSw); go_simp; try (with_reducible rfl))
              try simp only [Act.put, List.setIfInBounds_toArray, List.set_cons_zero, List.set_cons_succ]
              refine own_take (v := ?v133) 23 (some 36) rfl rfl (by kernel_rfl) (fun _ _ _ h => h) rfl (by assumption) ?o133 ?_
              case o133 => (intro w hSw; (try dsimp only at hSw); go_simp; try (with_reducible rfl))
              try simp only [Act.put, List.setIfInBounds_toArray, List.set_cons_zero, List.set_cons_succ]
              refine own_take (v := ?v134) 24 (some 37) rfl rfl (by kernel_rfl) (fun _ _ _ h => h) rfl (by assumption) ?o134 ?_
              case o134 => (intro w hSw; (try dsimp only at hSw); go_simp; try (with_reducible rfl))
              try simp only [Act.put, List.setIfInBounds_toArray, List.set_cons_zero, List.set_cons_succ]
              refine own_take (v := ?v135) 25 (some 38) rfl rfl (by kernel_rfl) (fun _ _ _ h => h) rfl (by assumption) ?o135 ?_
              case o135 => (intro w hSw; (try dsimp only at hSw); go_simp; try (with_reducible rfl))
              try simp only [Act.put, List.setIfInBounds_toArray, List.set_cons_zero, List.set_cons_succ]
              refine wpAnyH_done (by kernel_rfl) ?_ _
              go_wp2_with fail
              go_roundw
              case rel => exact ⟨m + 1 + 1, by omega, by go_num, HT, below_call HB9.out HB9.out.size (by go_split_ands; assumption)⟩
              case measure => simp [intOf]; omega
            · have q3 : decide (x.id ≤ pid) = true := decide_eq_true (by omega)
              have q4 : decide (pid < x.id) = false := decide_eq_false hpd
              have HT := Lib.hid (show r = false by rw [← HR.out]; exact range_not (by rw [HX.out, q2, q4]; simp) hlt)
              have hw' := hw.out
              have hw2 := hw2_.out
              refine wp_region_held_drew (S := (fun w' => w'.cell? ⟨wr.heap.size, 0, none⟩ = some (.int .i64 x.id) ∧ w'.cell? ⟨wr.heap.size, 1, none⟩ = some (.slice X1 x.labels.length e1) ∧ w'.cell? ⟨wr.heap.size, 2, none⟩ = some (.slice X2 x.props.length e2) ∧ w'.cell? ⟨w.heap.size, 0, none⟩ = some (.slice (some ⟨b, off, none⟩) g.nodes.length c1) ∧ w'.cell? ⟨w.heap.size, 1, none⟩ = some (.slice A2 g.rels.length c2) ∧ w'.cell? ⟨w.heap.size, 2, none⟩ = some (.int .i64 g.nextNode) ∧ w'.cell? ⟨w.heap.size, 3, none⟩ = some (.int .i64 g.nextRel) ∧ w'.cell? ⟨b, off + m * 3, none⟩ = some (.int .i64 pid) ∧ Below W1.heap.size W1 w')) (by kernel_rfl) ?o136 (fun hH0 => ?_)
              case o136 => ((try dsimp only); first | done | (first | (exact KS.out _ (Below.refl _ _)) | (exact KS.out _ (below_drewN (Below.refl _ _) 1)) | (go_split_ands; refine KS.out _ ?_; assumption)))
              refine own_take (v := ?v137) 0 (some 13) rfl rfl (by kernel_rfl) (fun _ _ _ h => h) rfl (by assumption) ?o137 ?_
              case o137 => (intro w hSw; (try dsimp only at hSw); go_simp; try (with_reducible rfl))
              try simp only [Act.put, List.setIfInBounds_toArray, List.set_cons_zero, List.set_cons_succ]
              refine own_step 1 (by kernel_rfl) rfl (fun K hK => ?_)
              go_simp
              (first | (go_at_call 236; refine (HC.out _ ?_).mono ?_; (go_split_ands; assumption); rintro e w1 ⟨rfl, hb1⟩))
              go_wp2_with fail
              refine hK.out _ _ ?o138 (fun hH1 => ?_)
              case o138 => ((try dsimp only); first | done | (first | (exact KS.out _ (Below.refl _ _)) | (exact KS.out _ (below_drewN (Below.refl _ _) 1)) | (go_split_ands; refine KS.out _ ?_; assumption)))
              clear hK K hH0
              try simp only [Act.put, List.setIfInBounds_toArray, List.set_cons_zero, List.set_cons_succ]
              refine own_take (v := ?v139) 2 (some 15) rfl rfl (by kernel_rfl) (fun _ _ _ h => h) rfl (by assumption) ?o139 ?_
              case o139 => (intro w hSw; (try dsimp only at hSw); go_simp; try (with_reducible rfl))
              try simp only [Act.put, List.setIfInBounds_toArray, List.set_cons_zero, List.set_cons_succ]
              refine own_take (v := ?v140) 3 (some 16) rfl rfl (by kernel_rfl) (fun _ _ _ h => h) rfl (by assumption) ?o140 ?_
              case o140 => (intro w hSw; (try dsimp only at hSw); go_simp; try (with_reducible rfl))
              try simp only [Act.put, List.setIfInBounds_toArray, List.set_cons_zero, List.set_cons_succ]
              refine own_take (v := ?v141) 4 (some 17) rfl rfl (by kernel_rfl) (fun _ _ _ h => h) rfl (by assumption) ?o141 ?_
              case o141 => (intro w hSw; (try dsimp only at hSw); go_simp; try (with_reducible rfl))
              try simp only [Act.put, List.setIfInBounds_toArray, List.set_cons_zero, List.set_cons_succ]
              refine own_take (v := ?v142) 5 (some 18) rfl rfl (by kernel_rfl) (fun _ _ _ h => h) rfl (by assumption) ?o142 ?_
              case o142 => (intro w hSw; (try dsimp only at hSw); go_simp; try (with_reducible rfl))
              try simp only [Act.put, List.setIfInBounds_toArray, List.set_cons_zero, List.set_cons_succ]
              refine own_take (v := ?v143) 6 (some 19) rfl rfl (by kernel_rfl) (fun _ _ _ h => h) rfl (by assumption) ?o143 ?_
              case o143 => (intro w hSw; (try dsimp only at hSw); go_simp; try (with_reducible rfl))
              try simp only [Act.put, List.setIfInBounds_toArray, List.set_cons_zero, List.set_cons_succ]
              refine own_take (v := ?v144) 7 (some 20) rfl rfl (by kernel_rfl) (fun _ _ _ h => h) rfl (by assumption) ?o144 ?_
              case o144 => (intro w hSw; (try dsimp only at hSw); go_simp; try (with_reducible rfl))
              try simp only [Act.put, List.setIfInBounds_toArray, List.set_cons_zero, List.set_cons_succ]
              refine own_take (v := ?v145) 8 (some 21) rfl rfl (by kernel_rfl) (fun _ _ _ h => h) rfl (by assumption) ?o145 ?_
              case o145 => (intro w hSw; (try dsimp only at hSw); go_simp; try (with_reducible rfl))
              try simp only [Act.put, List.setIfInBounds_toArray, List.set_cons_zero, List.set_cons_succ]
              refine own_take (v := ?v146) 9 (some 22) rfl rfl (by kernel_rfl) (fun _ _ _ h => h) rfl (by assumption) ?o146 ?_
              case o146 => (intro w hSw; (try dsimp only at hSw); go_simp; try (with_reducible rfl))
              try simp only [Act.put, List.setIfInBounds_toArray, List.set_cons_zero, List.set_cons_succ]
              refine own_take (v := ?v147) 10 (some 23) rfl rfl (by kernel_rfl) (fun _ _ _ h => h) rfl (by assumption) ?o147 ?_
              case o147 => (intro w hSw; (try dsimp only at hSw); go_simp; try (with_reducible rfl))
              try simp only [Act.put, List.setIfInBounds_toArray, List.set_cons_zero, List.set_cons_succ]
              refine own_take (v := ?v148) 11 (some 24) rfl rfl (by kernel_rfl) (fun _ _ _ h => h) rfl (by assumption) ?o148 ?_
              case o148 => (intro w hSw; (try dsimp only at hSw); go_simp; try (with_reducible rfl))
              try simp only [Act.put, List.setIfInBounds_toArray, List.set_cons_zero, List.set_cons_succ]
              refine own_take (v := ?v149) 12 (some 25) rfl rfl (by kernel_rfl) (fun _ _ _ h => h) rfl (by assumption) ?o149 ?_
              case o149 => (intro w hSw; (try dsimp only at hSw); go_simp; try (with_reducible rfl))
              try simp only [Act.put, List.setIfInBounds_toArray, List.set_cons_zero, List.set_cons_succ]
              refine own_take (v := ?v150) 13 (some 26) rfl rfl (by kernel_rfl) (fun _ _ _ h => h) rfl (by assumption) ?o150 ?_
              case o150 => (intro w hSw; (try dsimp only at hSw); go_simp; try (with_reducible rfl))
              try simp only [Act.put, List.setIfInBounds_toArray, List.set_cons_zero, List.set_cons_succ]
              refine own_take (v := ?v151) 14 (some 27) rfl rfl (by kernel_rfl) (fun _ _ _ h => h) rfl (by assumption) ?o151 ?_
              case o151 => (intro w hSw; (try dsimp only at hSw); go_simp; try (with_reducible rfl))
              try simp only [Act.put, List.setIfInBounds_toArray, List.set_cons_zero, List.set_cons_succ]
              refine own_take (v := ?v152) 15 (some 28) rfl rfl (by kernel_rfl) (fun _ _ _ h => h) rfl (by assumption) ?o152 ?_
              case o152 => (intro w hSw; (try dsimp only at hSw); go_simp; try (with_reducible rfl))
              try simp only [Act.put, List.setIfInBounds_toArray, List.set_cons_zero, List.set_cons_succ]
              refine own_take (v := ?v153) 16 (some 29) rfl rfl (by kernel_rfl) (fun _ _ _ h => h) rfl (by assumption) ?o153 ?_
              case o153 => (intro w hSw; (try dsimp only at hSw); go_simp; try (with_reducible rfl))
              try simp only [Act.put, List.setIfInBounds_toArray, List.set_cons_zero, List.set_cons_succ]
              refine own_take (v := ?v154) 17 (some 30) rfl rfl (by kernel_rfl) (fun _ _ _ h => h) rfl (by assumption) ?o154 ?_
              case o154 => (intro w hSw; (try dsimp only at hSw); go_simp; try (with_reducible rfl))
              try simp only [Act.put, List.setIfInBounds_toArray, List.set_cons_zero, List.set_cons_succ]
              refine own_take (v := ?v155) 18 (some 31) rfl rfl (by kernel_rfl) (fun _ _ _ h => h) rfl (by assumption) ?o155 ?_
              case o155 => (intro w hSw; (try dsimp only at hSw); go_simp; try (with_reducible rfl))
              try simp only [Act.put, List.setIfInBounds_toArray, List.set_cons_zero, List.set_cons_succ]
              refine own_take (v := ?v156) 19 (some 32) rfl rfl (by kernel_rfl) (fun _ _ _ h => h) rfl (by assumption) ?o156 ?_
              case o156 => (intro w hSw; (try dsimp only at hSw); go_simp; try (with_reducible rfl))
              try simp only [Act.put, List.setIfInBounds_toArray, List.set_cons_zero, List.set_cons_succ]
              refine own_take (v := ?v157) 20 (some 33) rfl rfl (by kernel_rfl) (fun _ _ _ h => h) rfl (by assumption) ?o157 ?_
              case o157 => (intro w hSw; (try dsimp only at hSw); go_simp; try (with_reducible rfl))
              try simp only [Act.put, List.setIfInBounds_toArray, List.set_cons_zero, List.set_cons_succ]
              refine own_take (v := ?v158) 21 (some 34) rfl rfl (by kernel_rfl) (fun _ _ _ h => h) rfl (by assumption) ?o158 ?_
              case o158 => (intro w hSw; (try dsimp only at hSw); go_simp; try (with_reducible rfl))
              try simp only [Act.put, List.setIfInBounds_toArray, List.set_cons_zero, List.set_cons_succ]
              refine own_take (v := ?v159) 22 (some 35) rfl rfl (by kernel_rfl) (fun _ _ _ h => h) rfl (by assumption) ?o159 ?_
              case o159 => (intro w hSw; (try dsimp only at hSw); go_simp; try (with_reducible rfl))
              try simp only [Act.put, List.setIfInBounds_toArray, List.set_cons_zero, List.set_cons_succ]
              refine own_take (v := ?v160) 23 (some 36) rfl rfl (by kernel_rfl) (fun _ _ _ h => h) rfl (by assumption) ?o160 ?_
              case o160 => (intro w hSw; (try dsimp only at hSw); go_simp; try (with_reducible rfl))
              try simp only [Act.put, List.setIfInBounds_toArray, List.set_cons_zero, List.set_cons_succ]
              refine own_take (v := ?v161) 24 (some 37) rfl rfl (by kernel_rfl) (fun _ _ _ h => h) rfl (by assumption) ?o161 ?_
              case o161 => (intro w hSw; (try dsimp only at hSw); go_simp; try (with_reducible rfl))
              try simp only [Act.put, List.setIfInBounds_toArray, List.set_cons_zero, List.set_cons_succ]
              refine own_take (v := ?v162) 25 (some 38) rfl rfl (by kernel_rfl) (fun _ _ _ h => h) rfl (by assumption) ?o162 ?_
              case o162 => (intro w hSw; (try dsimp only at hSw); go_simp; try (with_reducible rfl))
              try simp only [Act.put, List.setIfInBounds_toArray, List.set_cons_zero, List.set_cons_succ]
              refine wpAnyH_done (by kernel_rfl) ?_ _
              go_wp2_with fail
              go_ret
              exact ⟨by rw [HT.out]; rfl, below_call hB0 hB0.size (below_call HB9.out HB9.out.size (by go_split_ands; assumption))⟩
          · have q1 : decide (g.nextNode ≤ x.id) = true := decide_eq_true (by omega)
            have q2 : decide (x.id < g.nextNode) = false := decide_eq_false hid
            have HT := Lib.hid (show r = false by rw [← HR.out]; exact range_not (by rw [HX.out, q2]; simp) hlt)
            have hw' := hw.out
            have hw2 := hw2_.out
            refine wp_region_held_drew (S := (fun w' => w'.cell? ⟨wr.heap.size, 0, none⟩ = some (.int .i64 x.id) ∧ w'.cell? ⟨wr.heap.size, 1, none⟩ = some (.slice X1 x.labels.length e1) ∧ w'.cell? ⟨wr.heap.size, 2, none⟩ = some (.slice X2 x.props.length e2) ∧ w'.cell? ⟨w.heap.size, 0, none⟩ = some (.slice (some ⟨b, off, none⟩) g.nodes.length c1) ∧ w'.cell? ⟨w.heap.size, 1, none⟩ = some (.slice A2 g.rels.length c2) ∧ w'.cell? ⟨w.heap.size, 2, none⟩ = some (.int .i64 g.nextNode) ∧ w'.cell? ⟨w.heap.size, 3, none⟩ = some (.int .i64 g.nextRel) ∧ w'.cell? ⟨b, off + m * 3, none⟩ = some (.int .i64 pid) ∧ Below W1.heap.size W1 w')) (by kernel_rfl) ?o163 (fun hH0 => ?_)
            case o163 => ((try dsimp only); first | done | (first | (exact KS.out _ (Below.refl _ _)) | (exact KS.out _ (below_drewN (Below.refl _ _) 1)) | (go_split_ands; refine KS.out _ ?_; assumption)))
            refine own_take (v := ?v164) 0 (some 13) rfl rfl (by kernel_rfl) (fun _ _ _ h => h) rfl (by assumption) ?o164 ?_
            case o164 => (intro w hSw; (try dsimp only at hSw); go_simp; try (with_reducible rfl))
            try simp only [Act.put, List.setIfInBounds_toArray, List.set_cons_zero, List.set_cons_succ]
            refine own_step 1 (by kernel_rfl) rfl (fun K hK => ?_)
            go_simp
            (first | (go_at_call 236; refine (HC.out _ ?_).mono ?_; (go_split_ands; assumption); rintro e w1 ⟨rfl, hb1⟩))
            go_wp2_with fail
            refine hK.out _ _ ?o165 (fun hH1 => ?_)
            case o165 => ((try dsimp only); first | done | (first | (exact KS.out _ (Below.refl _ _)) | (exact KS.out _ (below_drewN (Below.refl _ _) 1)) | (go_split_ands; refine KS.out _ ?_; assumption)))
            clear hK K hH0
            try simp only [Act.put, List.setIfInBounds_toArray, List.set_cons_zero, List.set_cons_succ]
            refine own_take (v := ?v166) 2 (some 15) rfl rfl (by kernel_rfl) (fun _ _ _ h => h) rfl (by assumption) ?o166 ?_
            case o166 => (intro w hSw; (try dsimp only at hSw); go_simp; try (with_reducible rfl))
            try simp only [Act.put, List.setIfInBounds_toArray, List.set_cons_zero, List.set_cons_succ]
            refine own_take (v := ?v167) 3 (some 16) rfl rfl (by kernel_rfl) (fun _ _ _ h => h) rfl (by assumption) ?o167 ?_
            case o167 => (intro w hSw; (try dsimp only at hSw); go_simp; try (with_reducible rfl))
            try simp only [Act.put, List.setIfInBounds_toArray, List.set_cons_zero, List.set_cons_succ]
            refine own_take (v := ?v168) 4 (some 17) rfl rfl (by kernel_rfl) (fun _ _ _ h => h) rfl (by assumption) ?o168 ?_
            case o168 => (intro w hSw; (try dsimp only at hSw); go_simp; try (with_reducible rfl))
            try simp only [Act.put, List.setIfInBounds_toArray, List.set_cons_zero, List.set_cons_succ]
            refine own_take (v := ?v169) 5 (some 18) rfl rfl (by kernel_rfl) (fun _ _ _ h => h) rfl (by assumption) ?o169 ?_
            case o169 => (intro w hSw; (try dsimp only at hSw); go_simp; try (with_reducible rfl))
            try simp only [Act.put, List.setIfInBounds_toArray, List.set_cons_zero, List.set_cons_succ]
            refine own_take (v := ?v170) 6 (some 19) rfl rfl (by kernel_rfl) (fun _ _ _ h => h) rfl (by assumption) ?o170 ?_
            case o170 => (intro w hSw; (try dsimp only at hSw); go_simp; try (with_reducible rfl))
            try simp only [Act.put, List.setIfInBounds_toArray, List.set_cons_zero, List.set_cons_succ]
            refine own_take (v := ?v171) 7 (some 20) rfl rfl (by kernel_rfl) (fun _ _ _ h => h) rfl (by assumption) ?o171 ?_
            case o171 => (intro w hSw; (try dsimp only at hSw); go_simp; try (with_reducible rfl))
            try simp only [Act.put, List.setIfInBounds_toArray, List.set_cons_zero, List.set_cons_succ]
            refine own_take (v := ?v172) 8 (some 21) rfl rfl (by kernel_rfl) (fun _ _ _ h => h) rfl (by assumption) ?o172 ?_
            case o172 => (intro w hSw; (try dsimp only at hSw); go_simp; try (with_reducible rfl))
            try simp only [Act.put, List.setIfInBounds_toArray, List.set_cons_zero, List.set_cons_succ]
            refine own_take (v := ?v173) 9 (some 22) rfl rfl (by kernel_rfl) (fun _ _ _ h => h) rfl (by assumption) ?o173 ?_
            case o173 => (intro w hSw; (try dsimp only at hSw); go_simp; try (with_reducible rfl))
            try simp only [Act.put, List.setIfInBounds_toArray, List.set_cons_zero, List.set_cons_succ]
            refine own_take (v := ?v174) 10 (some 23) rfl rfl (by kernel_rfl) (fun _ _ _ h => h) rfl (by assumption) ?o174 ?_
            case o174 => (intro w hSw; (try dsimp only at hSw); go_simp; try (with_reducible rfl))
            try simp only [Act.put, List.setIfInBounds_toArray, List.set_cons_zero, List.set_cons_succ]
            refine own_skip 11 (some 24) rfl rfl (by kernel_rfl) (fun _ _ _ h => h) rfl (by assumption) ?_
            try simp only [Act.put, List.setIfInBounds_toArray, List.set_cons_zero, List.set_cons_succ]
            refine own_skip 12 (some 25) rfl rfl (by kernel_rfl) (fun _ _ _ h => h) rfl (by assumption) ?_
            try simp only [Act.put, List.setIfInBounds_toArray, List.set_cons_zero, List.set_cons_succ]
            refine own_skip 13 (some 26) rfl rfl (by kernel_rfl) (fun _ _ _ h => h) rfl (by assumption) ?_
            try simp only [Act.put, List.setIfInBounds_toArray, List.set_cons_zero, List.set_cons_succ]
            refine own_skip 14 (some 27) rfl rfl (by kernel_rfl) (fun _ _ _ h => h) rfl (by assumption) ?_
            try simp only [Act.put, List.setIfInBounds_toArray, List.set_cons_zero, List.set_cons_succ]
            refine own_skip 15 (some 28) rfl rfl (by kernel_rfl) (fun _ _ _ h => h) rfl (by assumption) ?_
            try simp only [Act.put, List.setIfInBounds_toArray, List.set_cons_zero, List.set_cons_succ]
            refine own_skip 16 (some 29) rfl rfl (by kernel_rfl) (fun _ _ _ h => h) rfl (by assumption) ?_
            try simp only [Act.put, List.setIfInBounds_toArray, List.set_cons_zero, List.set_cons_succ]
            refine own_skip 17 (some 30) rfl rfl (by kernel_rfl) (fun _ _ _ h => h) rfl (by assumption) ?_
            try simp only [Act.put, List.setIfInBounds_toArray, List.set_cons_zero, List.set_cons_succ]
            refine own_skip 18 (some 31) rfl rfl (by kernel_rfl) (fun _ _ _ h => h) rfl (by assumption) ?_
            try simp only [Act.put, List.setIfInBounds_toArray, List.set_cons_zero, List.set_cons_succ]
            refine own_skip 19 (some 32) rfl rfl (by kernel_rfl) (fun _ _ _ h => h) rfl (by assumption) ?_
            try simp only [Act.put, List.setIfInBounds_toArray, List.set_cons_zero, List.set_cons_succ]
            refine own_skip 20 (some 33) rfl rfl (by kernel_rfl) (fun _ _ _ h => h) rfl (by assumption) ?_
            try simp only [Act.put, List.setIfInBounds_toArray, List.set_cons_zero, List.set_cons_succ]
            refine own_skip 21 (some 34) rfl rfl (by kernel_rfl) (fun _ _ _ h => h) rfl (by assumption) ?_
            try simp only [Act.put, List.setIfInBounds_toArray, List.set_cons_zero, List.set_cons_succ]
            refine own_skip 22 (some 35) rfl rfl (by kernel_rfl) (fun _ _ _ h => h) rfl (by assumption) ?_
            try simp only [Act.put, List.setIfInBounds_toArray, List.set_cons_zero, List.set_cons_succ]
            refine own_skip 23 (some 36) rfl rfl (by kernel_rfl) (fun _ _ _ h => h) rfl (by assumption) ?_
            try simp only [Act.put, List.setIfInBounds_toArray, List.set_cons_zero, List.set_cons_succ]
            refine own_skip 24 (some 37) rfl rfl (by kernel_rfl) (fun _ _ _ h => h) rfl (by assumption) ?_
            try simp only [Act.put, List.setIfInBounds_toArray, List.set_cons_zero, List.set_cons_succ]
            refine own_take (v := ?v189) 25 (some 38) rfl rfl (by kernel_rfl) (fun _ _ _ h => h) rfl (by assumption) ?o189 ?_
            case o189 => (intro w hSw; (try dsimp only at hSw); go_simp; try (with_reducible rfl))
            try simp only [Act.put, List.setIfInBounds_toArray, List.set_cons_zero, List.set_cons_succ]
            refine wpAnyH_done (by kernel_rfl) ?_ _
            go_wp2_with fail
            go_ret
            exact ⟨by rw [HT.out]; rfl, below_call hB0 hB0.size (below_call HB9.out HB9.out.size (by go_split_ands; assumption))⟩
    · have HT := Lib.hid (show r = true by rw [← HR.out]; exact range_all HN.out (by omega))
      go_wp2_with fail
      go_ret
      exact ⟨by rw [HT.out]; rfl, below_call hB0 hB0.size hB⟩
end Go.Proofs.YtcmahpddjggcaaaGreatDoor
