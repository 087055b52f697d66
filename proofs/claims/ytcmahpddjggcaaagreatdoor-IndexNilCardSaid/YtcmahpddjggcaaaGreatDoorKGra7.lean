/- graph: rels. Printed by wip/gen_gra7.py. -/
import Derived.Test.YtcmahpddjggcaaaGreatDoorKGra6
import Derived.Test.YtcmahpddjggcaaaGreatDoorKOwnE
namespace Go.Proofs.YtcmahpddjggcaaaGreatDoor
open Go Go.RowKit
set_option maxHeartbeats 8000000
set_option maxRecDepth 100000

def rAt (l : List RelD) (i : Nat) : RelD := l.getD i ⟨0, 0, 0, ⟨#[]⟩, []⟩
def relIn (ns : List NodeD) (l : List RelD) (next : Int) (i : Nat) : Bool := relOk (rAt l i) && decide ((rAt l i).id < next) && (i == 0 || decide ((rAt l (i - 1)).id < (rAt l i).id)) && hasNode ns (rAt l i).src && hasNode ns (rAt l i).dst
def relsOk (ns : List NodeD) (l : List RelD) (next : Int) : Bool := (List.range l.length).all (relIn ns l next)
theorem rAt_get {l : List RelD} {k : Nat} {x : RelD} (h : l[k]? = some x) : rAt l k = x := by rw [rAt, List.getD_eq_getElem?_getD, h]; rfl
theorem rels_any (g : GraphD) (I : Nat → Prop) (w : World) (cs : List Value) (h : GraphD.ty.rep I w g cs) (hln : g.nodes.length ≤ BIG) (hl : g.rels.length ≤ BIG) (hs : ∀ n, n ∈ g.rels → n.size ≤ BIG) (hri : Rising g.nodes) (hT : Tabs w) :
    Calls Tryz.prog 162 #[.agg cs.toArray] w fun e w' => e = .returned (.bool (relsOk g.nodes g.rels g.nextRel)) ∧ Below w.heap.size w w' := by
  have hrg := GraphD.ty.lt h
  obtain ⟨A1, c1, A2, c2, rfl, k1, k2, h2, h1⟩ := GraphD.rep_open h
  have hlen : (g.rels.length : Int) ≤ 9223372036854775806 := by rw [BIG_eq] at hl; omega
  obtain ⟨r, HR⟩ : ∃ q, Hid (relsOk g.nodes g.rels g.nextRel = q) := ⟨_, Lib.hid rfl⟩
  rw [HR.out]
  have hB0 := below_alloc' (Below.refl w.heap.size w) (Nat.le_refl _) (.cells #[.slice A1 g.nodes.length c1, .slice A2 g.rels.length c2, .int .i64 g.nextNode, .int .i64 g.nextRel] 56)
  have b0 := Blk.new w [.slice A1 g.nodes.length c1, .slice A2 g.rels.length c2, .int .i64 g.nextNode, .int .i64 g.nextRel] 56
  have hw0 : w.heap.size + 1 ≤ (w.alloc (.cells #[.slice A1 g.nodes.length c1, .slice A2 g.rels.length c2, .int .i64 g.nextNode, .int .i64 g.nextRel] 56)).heap.size := by simp
  have HS := Lib.hid hs
  have HH := Lib.hid (fun (t : Int) (W : World) (hW : Below w.heap.size w W) => has_any g t _ W _ (GraphD.ty.belowB (fun _ hb => hb.2) hW hrg) hln hri)
  clear h h2 hs hrg
  go_enter Tryz.func162, Tryz.ntmps162
  go_wp2_with fail
  generalize w.alloc (.cells #[.slice A1 g.nodes.length c1, .slice A2 g.rels.length c2, .int .i64 g.nextNode, .int .i64 g.nextRel] 56) = W0 at *
  go_loopw [8] (fun i wr => ∃ k : Nat, k ≤ g.rels.length ∧ i = .int .i64 k ∧ Hid (∀ j, j < k → relIn g.nodes g.rels g.nextRel j = true) ∧ Below W0.heap.size W0 wr) (fun i _ => g.rels.length - (intOf i).toNat)
  case atStart => exact ⟨0, Nat.zero_le _, rfl, Lib.hid (fun j hj => by omega), Below.refl _ _⟩
  case round =>
    obtain ⟨k, hk, rfl, HN, hB⟩ := hrel
    by_cases hlt : k < g.rels.length
    · obtain ⟨x, hx, hxm⟩ := get_some hlt
      obtain ⟨b, off, cs, rfl, hIb, hbl, hcs, hat⟩ := h1.get hx
      have hcs' := RelD.ty.lt hcs
      obtain ⟨X2, e2, rfl, _⟩ := RelD.rep_open hcs
      have hBw := below_call hB0 hB0.size hB
      obtain ⟨g0, g1, g2, g3, g4⟩ := (hat.below hbl hBw).five
      have HX := Lib.hid (show relIn g.nodes g.rels g.nextRel k = (relOk x && decide (x.id < g.nextRel) && (k == 0 || decide ((rAt g.rels (k - 1)).id < x.id)) && hasNode g.nodes x.src && hasNode g.nodes x.dst) by rw [relIn, rAt_get hx])
      have HCS := Lib.hid hcs'
      have HB0 := Lib.hid (b0.below hB)
      have HBw := Lib.hid hBw
      have hwr : w.heap.size + 1 ≤ wr.heap.size := Nat.le_trans hw0 hB.size
      have HSX := Lib.hid (HS.out x hxm)
      have HPV := Lib.hid (show ∀ m, k = m + 1 → ∀ W, Below w.heap.size w W → W.cell? ⟨b, off + m * 5, none⟩ = some (.int .i64 (rAt g.rels m).id) from fun m hm W hW => by
        subst hm
        obtain ⟨y, hy, hym⟩ := get_some (l := g.rels) (k := m) (by omega)
        obtain ⟨b', off', ds, hA', _, hbl', hds, hat'⟩ := h1.get hy
        simp only [Option.some.injEq, Addr.mk.injEq, and_true] at hA'
        obtain ⟨rfl, rfl⟩ := hA'
        obtain ⟨Y2, f2, rfl, _⟩ := RelD.rep_open hds
        rw [rAt_get hy]
        exact (hat'.below hbl' hW).five.1)
      clear hat hx hcs hcs' hBw
      go_wp2_with fail
      have bx := Blk.new wr [.int .i64 x.id, .int .i64 x.src, .int .i64 x.dst, .string x.type, .slice X2 x.props.length e2] 67
      have hWx : Below wr.heap.size wr (wr.alloc (.cells #[.int .i64 x.id, .int .i64 x.src, .int .i64 x.dst, .string x.type, .slice X2 x.props.length e2] 67)) := below_alloc' (Below.refl _ _) (Nat.le_refl _) _
      have b2 := HB0.out.alloc (.cells #[.int .i64 x.id, .int .i64 x.src, .int .i64 x.dst, .string x.type, .slice X2 x.props.length e2] 67)
      have hs1 : wr.heap.size + 1 ≤ (wr.alloc (.cells #[.int .i64 x.id, .int .i64 x.src, .int .i64 x.dst, .string x.type, .slice X2 x.props.length e2] 67)).heap.size := by simp
      generalize wr.alloc (.cells #[.int .i64 x.id, .int .i64 x.src, .int .i64 x.dst, .string x.type, .slice X2 x.props.length e2] 67) = W1 at *
      have hB1 := below_call HBw.out HBw.out.size hWx
      have HB9 := Lib.hid (below_call hB hB.size hWx)
      have HC := Lib.hid (show ∀ W, Below W1.heap.size W1 W → Calls Tryz.prog 237 #[.agg #[.int .i64 x.id, .int .i64 x.src, .int .i64 x.dst, .string x.type, .slice X2 x.props.length e2]] W fun e w' => e = .returned (.bool (relOk x)) ∧ Below W1.heap.size W1 w' from fun W hW => by
        have hh := below_call hB1 hB1.size hW
        exact (rel_any x _ W _ (RelD.ty.belowB (fun _ hb => hb.2) hh HCS.out) HSX.out (hT.below hh)).mono (fun e w' h => ⟨h.1, hW.trans (h.2.mono hW.size)⟩))
      have HH2 := Lib.hid (show ∀ t W, Below W1.heap.size W1 W → Calls Tryz.prog 238 #[.agg #[.slice A1 g.nodes.length c1, .slice (some ⟨b, off, none⟩) g.rels.length c2, .int .i64 g.nextNode, .int .i64 g.nextRel], .int .i64 t] W fun e w' => e = .returned (.bool (hasNode g.nodes t)) ∧ Below W1.heap.size W1 w' from fun t W hW => by
        have hh := below_call hB1 hB1.size hW
        exact (HH.out t W hh).mono (fun e w' h => ⟨h.1, hW.trans (h.2.mono hW.size)⟩))
      have HHS := Lib.hid (HH2.out x.src)
      have HHD := Lib.hid (HH2.out x.dst)
      generalize relOk x = ok at *
      generalize hasNode g.nodes x.src = hs at *
      generalize hasNode g.nodes x.dst = hd at *
      clear HCS HSX HBw HB0 g0 g1 g2 g3 g4 hB HH HH2
      have HDD := Lib.hid (show x.src = x.dst → hs = hd ∨ True from fun _ => .inr trivial)
      cases k with
      | zero =>
        have KS := Lib.hid (show ∀ w', Below W1.heap.size W1 w' → w'.cell? ⟨wr.heap.size, 0, none⟩ = some (.int .i64 x.id) ∧ w'.cell? ⟨wr.heap.size, 1, none⟩ = some (.int .i64 x.src) ∧ w'.cell? ⟨wr.heap.size, 2, none⟩ = some (.int .i64 x.dst) ∧ w'.cell? ⟨wr.heap.size, 3, none⟩ = some (.string x.type) ∧ w'.cell? ⟨wr.heap.size, 4, none⟩ = some (.slice X2 x.props.length e2) ∧ w'.cell? ⟨w.heap.size, 0, none⟩ = some (.slice A1 g.nodes.length c1) ∧ w'.cell? ⟨w.heap.size, 1, none⟩ = some (.slice (some ⟨b, off, none⟩) g.rels.length c2) ∧ w'.cell? ⟨w.heap.size, 2, none⟩ = some (.int .i64 g.nextNode) ∧ w'.cell? ⟨w.heap.size, 3, none⟩ = some (.int .i64 g.nextRel) ∧ Below W1.heap.size W1 w' from fun w' hb => ⟨(bx.below hb).rd.1 0, (bx.below hb).rd.1 1, (bx.below hb).rd.1 2, (bx.below hb).rd.1 3, (bx.below hb).rd.1 4, (b2.below hb).rd.1 0, (b2.below hb).rd.1 1, (b2.below hb).rd.1 2, (b2.below hb).rd.1 3, hb⟩)
        obtain ⟨m1, m2, m3, m4, m5, m6, m7, m8, m9, m10⟩ := KS.out W1 (Below.refl _ _)
        clear bx b2 hWx hB1 HPV m10
        cases ok with
        | false =>
          have HT := Lib.hid (show r = false by rw [← HR.out]; exact range_not (by rw [HX.out]; simp) hlt)
          refine wp_region_held_drew (S := (fun w' => w'.cell? ⟨wr.heap.size, 0, none⟩ = some (.int .i64 x.id) ∧ w'.cell? ⟨wr.heap.size, 1, none⟩ = some (.int .i64 x.src) ∧ w'.cell? ⟨wr.heap.size, 2, none⟩ = some (.int .i64 x.dst) ∧ w'.cell? ⟨wr.heap.size, 3, none⟩ = some (.string x.type) ∧ w'.cell? ⟨wr.heap.size, 4, none⟩ = some (.slice X2 x.props.length e2) ∧ w'.cell? ⟨w.heap.size, 0, none⟩ = some (.slice A1 g.nodes.length c1) ∧ w'.cell? ⟨w.heap.size, 1, none⟩ = some (.slice (some ⟨b, off, none⟩) g.rels.length c2) ∧ w'.cell? ⟨w.heap.size, 2, none⟩ = some (.int .i64 g.nextNode) ∧ w'.cell? ⟨w.heap.size, 3, none⟩ = some (.int .i64 g.nextRel) ∧ Below W1.heap.size W1 w')) (by kernel_rfl) ?o1 (fun hH0 => ?_)
          case o1 => ((try dsimp only); first | done | (first | (exact KS.out _ (Below.refl _ _)) | (exact KS.out _ (below_drewN (Below.refl _ _) 1)) | (go_split_ands; refine KS.out _ ?_; assumption)))
          refine own_take (v := ?v2) 0 (some 13) rfl rfl (by kernel_rfl) (fun _ _ _ h => h) rfl (by assumption) ?o2 ?_
          case o2 => (intro w hSw; (try dsimp only at hSw); go_simp; try (with_reducible rfl))
          try simp only [Act.put, List.setIfInBounds_toArray, List.set_cons_zero, List.set_cons_succ]
          refine own_step 1 (by kernel_rfl) rfl (fun K hK => ?_)
          go_simp
          (first | (go_at_call 237; refine (HC.out _ ?_).mono ?_; (go_split_ands; assumption); rintro e w1 ⟨rfl, hb1⟩) | (go_at_call 238; with_reducible refine (HHS.out _ ?_).mono ?_; (go_split_ands; assumption); rintro e w1 ⟨rfl, hb1⟩) | (go_at_call 238; with_reducible refine (HHD.out _ ?_).mono ?_; (go_split_ands; assumption); rintro e w1 ⟨rfl, hb1⟩))
          go_wp2_with fail
          refine hK.out _ _ ?o3 (fun hH1 => ?_)
          case o3 => ((try dsimp only); first | done | (first | (exact KS.out _ (Below.refl _ _)) | (exact KS.out _ (below_drewN (Below.refl _ _) 1)) | (go_split_ands; refine KS.out _ ?_; assumption)))
          clear hK K hH0
          try simp only [Act.put, List.setIfInBounds_toArray, List.set_cons_zero, List.set_cons_succ]
          refine own_take (v := ?v4) 2 (some 15) rfl rfl (by kernel_rfl) (fun _ _ _ h => h) rfl (by assumption) ?o4 ?_
          case o4 => (intro w hSw; (try dsimp only at hSw); go_simp; try (with_reducible rfl))
          try simp only [Act.put, List.setIfInBounds_toArray, List.set_cons_zero, List.set_cons_succ]
          refine own_take (v := ?v5) 3 (some 16) rfl rfl (by kernel_rfl) (fun _ _ _ h => h) rfl (by assumption) ?o5 ?_
          case o5 => (intro w hSw; (try dsimp only at hSw); go_simp; try (with_reducible rfl))
          try simp only [Act.put, List.setIfInBounds_toArray, List.set_cons_zero, List.set_cons_succ]
          refine own_skip 4 (some 17) rfl rfl (by kernel_rfl) (fun _ _ _ h => h) rfl (by assumption) ?_
          try simp only [Act.put, List.setIfInBounds_toArray, List.set_cons_zero, List.set_cons_succ]
          refine own_skip 5 (some 18) rfl rfl (by kernel_rfl) (fun _ _ _ h => h) rfl (by assumption) ?_
          try simp only [Act.put, List.setIfInBounds_toArray, List.set_cons_zero, List.set_cons_succ]
          refine own_skip 6 (some 19) rfl rfl (by kernel_rfl) (fun _ _ _ h => h) rfl (by assumption) ?_
          try simp only [Act.put, List.setIfInBounds_toArray, List.set_cons_zero, List.set_cons_succ]
          refine own_skip 7 (some 20) rfl rfl (by kernel_rfl) (fun _ _ _ h => h) rfl (by assumption) ?_
          try simp only [Act.put, List.setIfInBounds_toArray, List.set_cons_zero, List.set_cons_succ]
          refine own_skip 8 (some 21) rfl rfl (by kernel_rfl) (fun _ _ _ h => h) rfl (by assumption) ?_
          try simp only [Act.put, List.setIfInBounds_toArray, List.set_cons_zero, List.set_cons_succ]
          refine own_take (v := ?v11) 9 (some 22) rfl rfl (by kernel_rfl) (fun _ _ _ h => h) rfl (by assumption) ?o11 ?_
          case o11 => (intro w hSw; (try dsimp only at hSw); go_simp; try (with_reducible rfl))
          try simp only [Act.put, List.setIfInBounds_toArray, List.set_cons_zero, List.set_cons_succ]
          refine own_take (v := ?v12) 10 (some 23) rfl rfl (by kernel_rfl) (fun _ _ _ h => h) rfl (by assumption) ?o12 ?_
          case o12 => (intro w hSw; (try dsimp only at hSw); go_simp; try (with_reducible rfl))
          try simp only [Act.put, List.setIfInBounds_toArray, List.set_cons_zero, List.set_cons_succ]
          refine own_skip 11 (some 24) rfl rfl (by kernel_rfl) (fun _ _ _ h => h) rfl (by assumption) ?_
          try simp only [Act.put, List.setIfInBounds_toArray, List.set_cons_zero, List.set_cons_succ]
          refine own_skip 12 (some 25) rfl rfl (by kernel_rfl) (fun _ _ _ h => h) rfl (by assumption) ?_
          try simp only [Act.put, List.setIfInBounds_toArray, List.set_cons_zero, List.set_cons_succ]
          refine own_skip 13 (some 26) rfl rfl (by kernel_rfl) (fun _ _ _ h => h) rfl (by assumption) ?_
          try simp only [Act.put, List.setIfInBounds_toArray, List.set_cons_zero, List.set_cons_succ]
          refine own_skip 14 (some 27) rfl rfl (by kernel_rfl) (fun _ _ _ h => h) rfl (by assumption) ?_
          try simp only [Act.put, List.setIfInBounds_toArray, List.set_cons_zero, List.set_cons_succ]
          refine own_skip 15 (some 28) rfl rfl (by kernel_rfl) (fun _ _ _ h => h) rfl (by assumption) ?_
          try simp only [Act.put, List.setIfInBounds_toArray, List.set_cons_zero, List.set_cons_succ]
          refine own_skip 16 (some 29) rfl rfl (by kernel_rfl) (fun _ _ _ h => h) rfl (by assumption) ?_
          try simp only [Act.put, List.setIfInBounds_toArray, List.set_cons_zero, List.set_cons_succ]
          refine own_skip 17 (some 30) rfl rfl (by kernel_rfl) (fun _ _ _ h => h) rfl (by assumption) ?_
          try simp only [Act.put, List.setIfInBounds_toArray, List.set_cons_zero, List.set_cons_succ]
          refine own_skip 18 (some 31) rfl rfl (by kernel_rfl) (fun _ _ _ h => h) rfl (by assumption) ?_
          try simp only [Act.put, List.setIfInBounds_toArray, List.set_cons_zero, List.set_cons_succ]
          refine own_skip 19 (some 32) rfl rfl (by kernel_rfl) (fun _ _ _ h => h) rfl (by assumption) ?_
          try simp only [Act.put, List.setIfInBounds_toArray, List.set_cons_zero, List.set_cons_succ]
          refine own_skip 20 (some 33) rfl rfl (by kernel_rfl) (fun _ _ _ h => h) rfl (by assumption) ?_
          try simp only [Act.put, List.setIfInBounds_toArray, List.set_cons_zero, List.set_cons_succ]
          refine own_skip 21 (some 34) rfl rfl (by kernel_rfl) (fun _ _ _ h => h) rfl (by assumption) ?_
          try simp only [Act.put, List.setIfInBounds_toArray, List.set_cons_zero, List.set_cons_succ]
          refine own_skip 22 (some 35) rfl rfl (by kernel_rfl) (fun _ _ _ h => h) rfl (by assumption) ?_
          try simp only [Act.put, List.setIfInBounds_toArray, List.set_cons_zero, List.set_cons_succ]
          refine own_skip 23 (some 36) rfl rfl (by kernel_rfl) (fun _ _ _ h => h) rfl (by assumption) ?_
          try simp only [Act.put, List.setIfInBounds_toArray, List.set_cons_zero, List.set_cons_succ]
          refine own_skip 24 (some 37) rfl rfl (by kernel_rfl) (fun _ _ _ h => h) rfl (by assumption) ?_
          try simp only [Act.put, List.setIfInBounds_toArray, List.set_cons_zero, List.set_cons_succ]
          refine own_take (v := ?v27) 25 (some 38) rfl rfl (by kernel_rfl) (fun _ _ _ h => h) rfl (by assumption) ?o27 ?_
          case o27 => (intro w hSw; (try dsimp only at hSw); go_simp; try (with_reducible rfl))
          try simp only [Act.put, List.setIfInBounds_toArray, List.set_cons_zero, List.set_cons_succ]
          refine own_take (v := ?v28) 26 (some 39) rfl rfl (by kernel_rfl) (fun _ _ _ h => h) rfl (by assumption) ?o28 ?_
          case o28 => (intro w hSw; (try dsimp only at hSw); go_simp; try (with_reducible rfl))
          try simp only [Act.put, List.setIfInBounds_toArray, List.set_cons_zero, List.set_cons_succ]
          refine own_skip 27 (some 40) rfl rfl (by kernel_rfl) (fun _ _ _ h => h) rfl (by assumption) ?_
          try simp only [Act.put, List.setIfInBounds_toArray, List.set_cons_zero, List.set_cons_succ]
          refine own_skip 28 (some 41) rfl rfl (by kernel_rfl) (fun _ _ _ h => h) rfl (by assumption) ?_
          try simp only [Act.put, List.setIfInBounds_toArray, List.set_cons_zero, List.set_cons_succ]
          refine own_skip 29 (some 42) rfl rfl (by kernel_rfl) (fun _ _ _ h => h) rfl (by assumption) ?_
          try simp only [Act.put, List.setIfInBounds_toArray, List.set_cons_zero, List.set_cons_succ]
          refine own_skip 30 (some 43) rfl rfl (by kernel_rfl) (fun _ _ _ h => h) rfl (by assumption) ?_
          try simp only [Act.put, List.setIfInBounds_toArray, List.set_cons_zero, List.set_cons_succ]
          refine own_skip 31 (some 44) rfl rfl (by kernel_rfl) (fun _ _ _ h => h) rfl (by assumption) ?_
          try simp only [Act.put, List.setIfInBounds_toArray, List.set_cons_zero, List.set_cons_succ]
          refine own_take (v := ?v34) 32 (some 45) rfl rfl (by kernel_rfl) (fun _ _ _ h => h) rfl (by assumption) ?o34 ?_
          case o34 => (intro w hSw; (try dsimp only at hSw); go_simp; try (with_reducible rfl))
          try simp only [Act.put, List.setIfInBounds_toArray, List.set_cons_zero, List.set_cons_succ]
          refine own_take (v := ?v35) 33 (some 46) rfl rfl (by kernel_rfl) (fun _ _ _ h => h) rfl (by assumption) ?o35 ?_
          case o35 => (intro w hSw; (try dsimp only at hSw); go_simp; try (with_reducible rfl))
          try simp only [Act.put, List.setIfInBounds_toArray, List.set_cons_zero, List.set_cons_succ]
          refine own_skip 34 (some 47) rfl rfl (by kernel_rfl) (fun _ _ _ h => h) rfl (by assumption) ?_
          try simp only [Act.put, List.setIfInBounds_toArray, List.set_cons_zero, List.set_cons_succ]
          refine own_skip 35 (some 48) rfl rfl (by kernel_rfl) (fun _ _ _ h => h) rfl (by assumption) ?_
          try simp only [Act.put, List.setIfInBounds_toArray, List.set_cons_zero, List.set_cons_succ]
          refine own_skip 36 (some 49) rfl rfl (by kernel_rfl) (fun _ _ _ h => h) rfl (by assumption) ?_
          try simp only [Act.put, List.setIfInBounds_toArray, List.set_cons_zero, List.set_cons_succ]
          refine own_skip 37 (some 50) rfl rfl (by kernel_rfl) (fun _ _ _ h => h) rfl (by assumption) ?_
          try simp only [Act.put, List.setIfInBounds_toArray, List.set_cons_zero, List.set_cons_succ]
          refine own_skip 38 (some 51) rfl rfl (by kernel_rfl) (fun _ _ _ h => h) rfl (by assumption) ?_
          try simp only [Act.put, List.setIfInBounds_toArray, List.set_cons_zero, List.set_cons_succ]
          refine own_take (v := ?v41) 39 (some 52) rfl rfl (by kernel_rfl) (fun _ _ _ h => h) rfl (by assumption) ?o41 ?_
          case o41 => (intro w hSw; (try dsimp only at hSw); go_simp; try (with_reducible rfl))
          try simp only [Act.put, List.setIfInBounds_toArray, List.set_cons_zero, List.set_cons_succ]
          refine wpAnyH_done (by kernel_rfl) ?_ _
          go_wp2_with fail
          go_ret
          exact ⟨by rw [HT.out]; rfl, below_call hB0 hB0.size (below_call HB9.out HB9.out.size (by go_split_ands; assumption))⟩
        | true =>
          by_cases hid : x.id < g.nextRel
          case neg =>
            have q1 : decide (g.nextRel ≤ x.id) = true := decide_eq_true (by omega)
            have q2 : decide (x.id < g.nextRel) = false := decide_eq_false hid
            have HT := Lib.hid (show r = false by rw [← HR.out]; exact range_not (by rw [HX.out, q2]; simp) hlt)
            refine wp_region_held_drew (S := (fun w' => w'.cell? ⟨wr.heap.size, 0, none⟩ = some (.int .i64 x.id) ∧ w'.cell? ⟨wr.heap.size, 1, none⟩ = some (.int .i64 x.src) ∧ w'.cell? ⟨wr.heap.size, 2, none⟩ = some (.int .i64 x.dst) ∧ w'.cell? ⟨wr.heap.size, 3, none⟩ = some (.string x.type) ∧ w'.cell? ⟨wr.heap.size, 4, none⟩ = some (.slice X2 x.props.length e2) ∧ w'.cell? ⟨w.heap.size, 0, none⟩ = some (.slice A1 g.nodes.length c1) ∧ w'.cell? ⟨w.heap.size, 1, none⟩ = some (.slice (some ⟨b, off, none⟩) g.rels.length c2) ∧ w'.cell? ⟨w.heap.size, 2, none⟩ = some (.int .i64 g.nextNode) ∧ w'.cell? ⟨w.heap.size, 3, none⟩ = some (.int .i64 g.nextRel) ∧ Below W1.heap.size W1 w')) (by kernel_rfl) ?o42 (fun hH0 => ?_)
            case o42 => ((try dsimp only); first | done | (first | (exact KS.out _ (Below.refl _ _)) | (exact KS.out _ (below_drewN (Below.refl _ _) 1)) | (go_split_ands; refine KS.out _ ?_; assumption)))
            refine own_take (v := ?v43) 0 (some 13) rfl rfl (by kernel_rfl) (fun _ _ _ h => h) rfl (by assumption) ?o43 ?_
            case o43 => (intro w hSw; (try dsimp only at hSw); go_simp; try (with_reducible rfl))
            try simp only [Act.put, List.setIfInBounds_toArray, List.set_cons_zero, List.set_cons_succ]
            refine own_step 1 (by kernel_rfl) rfl (fun K hK => ?_)
            go_simp
            (first | (go_at_call 237; refine (HC.out _ ?_).mono ?_; (go_split_ands; assumption); rintro e w1 ⟨rfl, hb1⟩) | (go_at_call 238; with_reducible refine (HHS.out _ ?_).mono ?_; (go_split_ands; assumption); rintro e w1 ⟨rfl, hb1⟩) | (go_at_call 238; with_reducible refine (HHD.out _ ?_).mono ?_; (go_split_ands; assumption); rintro e w1 ⟨rfl, hb1⟩))
            go_wp2_with fail
            refine hK.out _ _ ?o44 (fun hH1 => ?_)
            case o44 => ((try dsimp only); first | done | (first | (exact KS.out _ (Below.refl _ _)) | (exact KS.out _ (below_drewN (Below.refl _ _) 1)) | (go_split_ands; refine KS.out _ ?_; assumption)))
            clear hK K hH0
            try simp only [Act.put, List.setIfInBounds_toArray, List.set_cons_zero, List.set_cons_succ]
            refine own_take (v := ?v45) 2 (some 15) rfl rfl (by kernel_rfl) (fun _ _ _ h => h) rfl (by assumption) ?o45 ?_
            case o45 => (intro w hSw; (try dsimp only at hSw); go_simp; try (with_reducible rfl))
            try simp only [Act.put, List.setIfInBounds_toArray, List.set_cons_zero, List.set_cons_succ]
            refine own_take (v := ?v46) 3 (some 16) rfl rfl (by kernel_rfl) (fun _ _ _ h => h) rfl (by assumption) ?o46 ?_
            case o46 => (intro w hSw; (try dsimp only at hSw); go_simp; try (with_reducible rfl))
            try simp only [Act.put, List.setIfInBounds_toArray, List.set_cons_zero, List.set_cons_succ]
            refine own_take (v := ?v47) 4 (some 17) rfl rfl (by kernel_rfl) (fun _ _ _ h => h) rfl (by assumption) ?o47 ?_
            case o47 => (intro w hSw; (try dsimp only at hSw); go_simp; try (with_reducible rfl))
            try simp only [Act.put, List.setIfInBounds_toArray, List.set_cons_zero, List.set_cons_succ]
            refine own_take (v := ?v48) 5 (some 18) rfl rfl (by kernel_rfl) (fun _ _ _ h => h) rfl (by assumption) ?o48 ?_
            case o48 => (intro w hSw; (try dsimp only at hSw); go_simp; try (with_reducible rfl))
            try simp only [Act.put, List.setIfInBounds_toArray, List.set_cons_zero, List.set_cons_succ]
            refine own_take (v := ?v49) 6 (some 19) rfl rfl (by kernel_rfl) (fun _ _ _ h => h) rfl (by assumption) ?o49 ?_
            case o49 => (intro w hSw; (try dsimp only at hSw); go_simp; try (with_reducible rfl))
            try simp only [Act.put, List.setIfInBounds_toArray, List.set_cons_zero, List.set_cons_succ]
            refine own_take (v := ?v50) 7 (some 20) rfl rfl (by kernel_rfl) (fun _ _ _ h => h) rfl (by assumption) ?o50 ?_
            case o50 => (intro w hSw; (try dsimp only at hSw); go_simp; try (with_reducible rfl))
            try simp only [Act.put, List.setIfInBounds_toArray, List.set_cons_zero, List.set_cons_succ]
            refine own_take (v := ?v51) 8 (some 21) rfl rfl (by kernel_rfl) (fun _ _ _ h => h) rfl (by assumption) ?o51 ?_
            case o51 => (intro w hSw; (try dsimp only at hSw); go_simp; try (with_reducible rfl))
            try simp only [Act.put, List.setIfInBounds_toArray, List.set_cons_zero, List.set_cons_succ]
            refine own_take (v := ?v52) 9 (some 22) rfl rfl (by kernel_rfl) (fun _ _ _ h => h) rfl (by assumption) ?o52 ?_
            case o52 => (intro w hSw; (try dsimp only at hSw); go_simp; try (with_reducible rfl))
            try simp only [Act.put, List.setIfInBounds_toArray, List.set_cons_zero, List.set_cons_succ]
            refine own_take (v := ?v53) 10 (some 23) rfl rfl (by kernel_rfl) (fun _ _ _ h => h) rfl (by assumption) ?o53 ?_
            case o53 => (intro w hSw; (try dsimp only at hSw); go_simp; try (with_reducible rfl))
            try simp only [Act.put, List.setIfInBounds_toArray, List.set_cons_zero, List.set_cons_succ]
            refine own_skip 11 (some 24) rfl rfl (by kernel_rfl) (fun _ _ _ h => h) rfl (by assumption) ?_
            try simp only [Act.put, List.setIfInBounds_toArray, List.set_cons_zero, List.set_cons_succ]
            refine own_skip 12 (some 25) rfl rfl (by kernel_rfl) (fun _ _ _ h => h) rfl (by assumption) ?_
            try simp only [Act.put, List.setIfInBounds_toArray, List.set_cons_zero, List.set_cons_succ]
            refine own_skip 13 (some 26) rfl rfl (by kernel_rfl) (fun _ _ _ h => h) rfl (by assumption) ?_
            try simp only [Act.put, List.setIfInBounds_toArray, List.set_cons_zero, List.set_cons_succ]
            refine own_skip 14 (some 27) rfl rfl (by kernel_rfl) (fun _ _ _ h => h) rfl (by assumption) ?_
            try simp only [Act.put, List.setIfInBounds_toArray, List.set_cons_zero, List.set_cons_succ]
            refine own_skip 15 (some 28) rfl rfl (by kernel_rfl) (fun _ _ _ h => h) rfl (by assumption) ?_
            try simp only [Act.put, List.setIfInBounds_toArray, List.set_cons_zero, List.set_cons_succ]
            refine own_skip 16 (some 29) rfl rfl (by kernel_rfl) (fun _ _ _ h => h) rfl (by assumption) ?_
            try simp only [Act.put, List.setIfInBounds_toArray, List.set_cons_zero, List.set_cons_succ]
            refine own_skip 17 (some 30) rfl rfl (by kernel_rfl) (fun _ _ _ h => h) rfl (by assumption) ?_
            try simp only [Act.put, List.setIfInBounds_toArray, List.set_cons_zero, List.set_cons_succ]
            refine own_skip 18 (some 31) rfl rfl (by kernel_rfl) (fun _ _ _ h => h) rfl (by assumption) ?_
            try simp only [Act.put, List.setIfInBounds_toArray, List.set_cons_zero, List.set_cons_succ]
            refine own_skip 19 (some 32) rfl rfl (by kernel_rfl) (fun _ _ _ h => h) rfl (by assumption) ?_
            try simp only [Act.put, List.setIfInBounds_toArray, List.set_cons_zero, List.set_cons_succ]
            refine own_skip 20 (some 33) rfl rfl (by kernel_rfl) (fun _ _ _ h => h) rfl (by assumption) ?_
            try simp only [Act.put, List.setIfInBounds_toArray, List.set_cons_zero, List.set_cons_succ]
            refine own_skip 21 (some 34) rfl rfl (by kernel_rfl) (fun _ _ _ h => h) rfl (by assumption) ?_
            try simp only [Act.put, List.setIfInBounds_toArray, List.set_cons_zero, List.set_cons_succ]
            refine own_skip 22 (some 35) rfl rfl (by kernel_rfl) (fun _ _ _ h => h) rfl (by assumption) ?_
            try simp only [Act.put, List.setIfInBounds_toArray, List.set_cons_zero, List.set_cons_succ]
            refine own_skip 23 (some 36) rfl rfl (by kernel_rfl) (fun _ _ _ h => h) rfl (by assumption) ?_
            try simp only [Act.put, List.setIfInBounds_toArray, List.set_cons_zero, List.set_cons_succ]
            refine own_skip 24 (some 37) rfl rfl (by kernel_rfl) (fun _ _ _ h => h) rfl (by assumption) ?_
            try simp only [Act.put, List.setIfInBounds_toArray, List.set_cons_zero, List.set_cons_succ]
            refine own_take (v := ?v68) 25 (some 38) rfl rfl (by kernel_rfl) (fun _ _ _ h => h) rfl (by assumption) ?o68 ?_
            case o68 => (intro w hSw; (try dsimp only at hSw); go_simp; try (with_reducible rfl))
            try simp only [Act.put, List.setIfInBounds_toArray, List.set_cons_zero, List.set_cons_succ]
            refine own_take (v := ?v69) 26 (some 39) rfl rfl (by kernel_rfl) (fun _ _ _ h => h) rfl (by assumption) ?o69 ?_
            case o69 => (intro w hSw; (try dsimp only at hSw); go_simp; try (with_reducible rfl))
            try simp only [Act.put, List.setIfInBounds_toArray, List.set_cons_zero, List.set_cons_succ]
            refine own_skip 27 (some 40) rfl rfl (by kernel_rfl) (fun _ _ _ h => h) rfl (by assumption) ?_
            try simp only [Act.put, List.setIfInBounds_toArray, List.set_cons_zero, List.set_cons_succ]
            refine own_skip 28 (some 41) rfl rfl (by kernel_rfl) (fun _ _ _ h => h) rfl (by assumption) ?_
            try simp only [Act.put, List.setIfInBounds_toArray, List.set_cons_zero, List.set_cons_succ]
            refine own_skip 29 (some 42) rfl rfl (by kernel_rfl) (fun _ _ _ h => h) rfl (by assumption) ?_
            try simp only [Act.put, List.setIfInBounds_toArray, List.set_cons_zero, List.set_cons_succ]
            refine own_skip 30 (some 43) rfl rfl (by kernel_rfl) (fun _ _ _ h => h) rfl (by assumption) ?_
            try simp only [Act.put, List.setIfInBounds_toArray, List.set_cons_zero, List.set_cons_succ]
            refine own_skip 31 (some 44) rfl rfl (by kernel_rfl) (fun _ _ _ h => h) rfl (by assumption) ?_
            try simp only [Act.put, List.setIfInBounds_toArray, List.set_cons_zero, List.set_cons_succ]
            refine own_take (v := ?v75) 32 (some 45) rfl rfl (by kernel_rfl) (fun _ _ _ h => h) rfl (by assumption) ?o75 ?_
            case o75 => (intro w hSw; (try dsimp only at hSw); go_simp; try (with_reducible rfl))
            try simp only [Act.put, List.setIfInBounds_toArray, List.set_cons_zero, List.set_cons_succ]
            refine own_take (v := ?v76) 33 (some 46) rfl rfl (by kernel_rfl) (fun _ _ _ h => h) rfl (by assumption) ?o76 ?_
            case o76 => (intro w hSw; (try dsimp only at hSw); go_simp; try (with_reducible rfl))
            try simp only [Act.put, List.setIfInBounds_toArray, List.set_cons_zero, List.set_cons_succ]
            refine own_skip 34 (some 47) rfl rfl (by kernel_rfl) (fun _ _ _ h => h) rfl (by assumption) ?_
            try simp only [Act.put, List.setIfInBounds_toArray, List.set_cons_zero, List.set_cons_succ]
            refine own_skip 35 (some 48) rfl rfl (by kernel_rfl) (fun _ _ _ h => h) rfl (by assumption) ?_
            try simp only [Act.put, List.setIfInBounds_toArray, List.set_cons_zero, List.set_cons_succ]
            refine own_skip 36 (some 49) rfl rfl (by kernel_rfl) (fun _ _ _ h => h) rfl (by assumption) ?_
            try simp only [Act.put, List.setIfInBounds_toArray, List.set_cons_zero, List.set_cons_succ]
            refine own_skip 37 (some 50) rfl rfl (by kernel_rfl) (fun _ _ _ h => h) rfl (by assumption) ?_
            try simp only [Act.put, List.setIfInBounds_toArray, List.set_cons_zero, List.set_cons_succ]
            refine own_skip 38 (some 51) rfl rfl (by kernel_rfl) (fun _ _ _ h => h) rfl (by assumption) ?_
            try simp only [Act.put, List.setIfInBounds_toArray, List.set_cons_zero, List.set_cons_succ]
            refine own_take (v := ?v82) 39 (some 52) rfl rfl (by kernel_rfl) (fun _ _ _ h => h) rfl (by assumption) ?o82 ?_
            case o82 => (intro w hSw; (try dsimp only at hSw); go_simp; try (with_reducible rfl))
            try simp only [Act.put, List.setIfInBounds_toArray, List.set_cons_zero, List.set_cons_succ]
            refine wpAnyH_done (by kernel_rfl) ?_ _
            go_wp2_with fail
            go_ret
            exact ⟨by rw [HT.out]; rfl, below_call hB0 hB0.size (below_call HB9.out HB9.out.size (by go_split_ands; assumption))⟩
          have q1 : decide (g.nextRel ≤ x.id) = false := decide_eq_false (by omega)
          have q2 : decide (x.id < g.nextRel) = true := decide_eq_true hid
          cases hs with
          | false =>
            have HT := Lib.hid (show r = false by rw [← HR.out]; exact range_not (by rw [HX.out, q2]; simp) hlt)
            refine wp_region_held_drew (S := (fun w' => w'.cell? ⟨wr.heap.size, 0, none⟩ = some (.int .i64 x.id) ∧ w'.cell? ⟨wr.heap.size, 1, none⟩ = some (.int .i64 x.src) ∧ w'.cell? ⟨wr.heap.size, 2, none⟩ = some (.int .i64 x.dst) ∧ w'.cell? ⟨wr.heap.size, 3, none⟩ = some (.string x.type) ∧ w'.cell? ⟨wr.heap.size, 4, none⟩ = some (.slice X2 x.props.length e2) ∧ w'.cell? ⟨w.heap.size, 0, none⟩ = some (.slice A1 g.nodes.length c1) ∧ w'.cell? ⟨w.heap.size, 1, none⟩ = some (.slice (some ⟨b, off, none⟩) g.rels.length c2) ∧ w'.cell? ⟨w.heap.size, 2, none⟩ = some (.int .i64 g.nextNode) ∧ w'.cell? ⟨w.heap.size, 3, none⟩ = some (.int .i64 g.nextRel) ∧ Below W1.heap.size W1 w')) (by kernel_rfl) ?o83 (fun hH0 => ?_)
            case o83 => ((try dsimp only); first | done | (first | (exact KS.out _ (Below.refl _ _)) | (exact KS.out _ (below_drewN (Below.refl _ _) 1)) | (go_split_ands; refine KS.out _ ?_; assumption)))
            refine own_take (v := ?v84) 0 (some 13) rfl rfl (by kernel_rfl) (fun _ _ _ h => h) rfl (by assumption) ?o84 ?_
            case o84 => (intro w hSw; (try dsimp only at hSw); go_simp; try (with_reducible rfl))
            try simp only [Act.put, List.setIfInBounds_toArray, List.set_cons_zero, List.set_cons_succ]
            refine own_step 1 (by kernel_rfl) rfl (fun K hK => ?_)
            go_simp
            (first | (go_at_call 237; refine (HC.out _ ?_).mono ?_; (go_split_ands; assumption); rintro e w1 ⟨rfl, hb1⟩) | (go_at_call 238; with_reducible refine (HHS.out _ ?_).mono ?_; (go_split_ands; assumption); rintro e w1 ⟨rfl, hb1⟩) | (go_at_call 238; with_reducible refine (HHD.out _ ?_).mono ?_; (go_split_ands; assumption); rintro e w1 ⟨rfl, hb1⟩))
            go_wp2_with fail
            refine hK.out _ _ ?o85 (fun hH1 => ?_)
            case o85 => ((try dsimp only); first | done | (first | (exact KS.out _ (Below.refl _ _)) | (exact KS.out _ (below_drewN (Below.refl _ _) 1)) | (go_split_ands; refine KS.out _ ?_; assumption)))
            clear hK K hH0
            try simp only [Act.put, List.setIfInBounds_toArray, List.set_cons_zero, List.set_cons_succ]
            refine own_take (v := ?v86) 2 (some 15) rfl rfl (by kernel_rfl) (fun _ _ _ h => h) rfl (by assumption) ?o86 ?_
            case o86 => (intro w hSw; (try dsimp only at hSw); go_simp; try (with_reducible rfl))
            try simp only [Act.put, List.setIfInBounds_toArray, List.set_cons_zero, List.set_cons_succ]
            refine own_take (v := ?v87) 3 (some 16) rfl rfl (by kernel_rfl) (fun _ _ _ h => h) rfl (by assumption) ?o87 ?_
            case o87 => (intro w hSw; (try dsimp only at hSw); go_simp; try (with_reducible rfl))
            try simp only [Act.put, List.setIfInBounds_toArray, List.set_cons_zero, List.set_cons_succ]
            refine own_take (v := ?v88) 4 (some 17) rfl rfl (by kernel_rfl) (fun _ _ _ h => h) rfl (by assumption) ?o88 ?_
            case o88 => (intro w hSw; (try dsimp only at hSw); go_simp; try (with_reducible rfl))
            try simp only [Act.put, List.setIfInBounds_toArray, List.set_cons_zero, List.set_cons_succ]
            refine own_take (v := ?v89) 5 (some 18) rfl rfl (by kernel_rfl) (fun _ _ _ h => h) rfl (by assumption) ?o89 ?_
            case o89 => (intro w hSw; (try dsimp only at hSw); go_simp; try (with_reducible rfl))
            try simp only [Act.put, List.setIfInBounds_toArray, List.set_cons_zero, List.set_cons_succ]
            refine own_take (v := ?v90) 6 (some 19) rfl rfl (by kernel_rfl) (fun _ _ _ h => h) rfl (by assumption) ?o90 ?_
            case o90 => (intro w hSw; (try dsimp only at hSw); go_simp; try (with_reducible rfl))
            try simp only [Act.put, List.setIfInBounds_toArray, List.set_cons_zero, List.set_cons_succ]
            refine own_take (v := ?v91) 7 (some 20) rfl rfl (by kernel_rfl) (fun _ _ _ h => h) rfl (by assumption) ?o91 ?_
            case o91 => (intro w hSw; (try dsimp only at hSw); go_simp; try (with_reducible rfl))
            try simp only [Act.put, List.setIfInBounds_toArray, List.set_cons_zero, List.set_cons_succ]
            refine own_take (v := ?v92) 8 (some 21) rfl rfl (by kernel_rfl) (fun _ _ _ h => h) rfl (by assumption) ?o92 ?_
            case o92 => (intro w hSw; (try dsimp only at hSw); go_simp; try (with_reducible rfl))
            try simp only [Act.put, List.setIfInBounds_toArray, List.set_cons_zero, List.set_cons_succ]
            refine own_take (v := ?v93) 9 (some 22) rfl rfl (by kernel_rfl) (fun _ _ _ h => h) rfl (by assumption) ?o93 ?_
            case o93 => (intro w hSw; (try dsimp only at hSw); go_simp; try (with_reducible rfl))
            try simp only [Act.put, List.setIfInBounds_toArray, List.set_cons_zero, List.set_cons_succ]
            refine own_take (v := ?v94) 10 (some 23) rfl rfl (by kernel_rfl) (fun _ _ _ h => h) rfl (by assumption) ?o94 ?_
            case o94 => (intro w hSw; (try dsimp only at hSw); go_simp; try (with_reducible rfl))
            try simp only [Act.put, List.setIfInBounds_toArray, List.set_cons_zero, List.set_cons_succ]
            refine own_take (v := ?v95) 11 (some 24) rfl rfl (by kernel_rfl) (fun _ _ _ h => h) rfl (by assumption) ?o95 ?_
            case o95 => (intro w hSw; (try dsimp only at hSw); go_simp; try (with_reducible rfl))
            try simp only [Act.put, List.setIfInBounds_toArray, List.set_cons_zero, List.set_cons_succ]
            refine own_take (v := ?v96) 12 (some 25) rfl rfl (by kernel_rfl) (fun _ _ _ h => h) rfl (by assumption) ?o96 ?_
            case o96 => (intro w hSw; (try dsimp only at hSw); go_simp; try (with_reducible rfl))
            try simp only [Act.put, List.setIfInBounds_toArray, List.set_cons_zero, List.set_cons_succ]
            refine own_take (v := ?v97) 13 (some 26) rfl rfl (by kernel_rfl) (fun _ _ _ h => h) rfl (by assumption) ?o97 ?_
            case o97 => (intro w hSw; (try dsimp only at hSw); go_simp; try (with_reducible rfl))
            try simp only [Act.put, List.setIfInBounds_toArray, List.set_cons_zero, List.set_cons_succ]
            refine own_skip 14 (some 27) rfl rfl (by kernel_rfl) (fun _ _ _ h => h) rfl (by assumption) ?_
            try simp only [Act.put, List.setIfInBounds_toArray, List.set_cons_zero, List.set_cons_succ]
            refine own_skip 15 (some 28) rfl rfl (by kernel_rfl) (fun _ _ _ h => h) rfl (by assumption) ?_
            try simp only [Act.put, List.setIfInBounds_toArray, List.set_cons_zero, List.set_cons_succ]
            refine own_skip 16 (some 29) rfl rfl (by kernel_rfl) (fun _ _ _ h => h) rfl (by assumption) ?_
            try simp only [Act.put, List.setIfInBounds_toArray, List.set_cons_zero, List.set_cons_succ]
            refine own_skip 17 (some 30) rfl rfl (by kernel_rfl) (fun _ _ _ h => h) rfl (by assumption) ?_
            try simp only [Act.put, List.setIfInBounds_toArray, List.set_cons_zero, List.set_cons_succ]
            refine own_skip 18 (some 31) rfl rfl (by kernel_rfl) (fun _ _ _ h => h) rfl (by assumption) ?_
            try simp only [Act.put, List.setIfInBounds_toArray, List.set_cons_zero, List.set_cons_succ]
            refine own_skip 19 (some 32) rfl rfl (by kernel_rfl) (fun _ _ _ h => h) rfl (by assumption) ?_
            try simp only [Act.put, List.setIfInBounds_toArray, List.set_cons_zero, List.set_cons_succ]
            refine own_skip 20 (some 33) rfl rfl (by kernel_rfl) (fun _ _ _ h => h) rfl (by assumption) ?_
            try simp only [Act.put, List.setIfInBounds_toArray, List.set_cons_zero, List.set_cons_succ]
            refine own_skip 21 (some 34) rfl rfl (by kernel_rfl) (fun _ _ _ h => h) rfl (by assumption) ?_
            try simp only [Act.put, List.setIfInBounds_toArray, List.set_cons_zero, List.set_cons_succ]
            refine own_skip 22 (some 35) rfl rfl (by kernel_rfl) (fun _ _ _ h => h) rfl (by assumption) ?_
            try simp only [Act.put, List.setIfInBounds_toArray, List.set_cons_zero, List.set_cons_succ]
            refine own_skip 23 (some 36) rfl rfl (by kernel_rfl) (fun _ _ _ h => h) rfl (by assumption) ?_
            try simp only [Act.put, List.setIfInBounds_toArray, List.set_cons_zero, List.set_cons_succ]
            refine own_take (v := ?v108) 24 (some 37) rfl rfl (by kernel_rfl) (fun _ _ _ h => h) rfl (by assumption) ?o108 ?_
            case o108 => (intro w hSw; (try dsimp only at hSw); go_simp; try (with_reducible rfl))
            try simp only [Act.put, List.setIfInBounds_toArray, List.set_cons_zero, List.set_cons_succ]
            refine own_take (v := ?v109) 25 (some 38) rfl rfl (by kernel_rfl) (fun _ _ _ h => h) rfl (by assumption) ?o109 ?_
            case o109 => (intro w hSw; (try dsimp only at hSw); go_simp; try (with_reducible rfl))
            try simp only [Act.put, List.setIfInBounds_toArray, List.set_cons_zero, List.set_cons_succ]
            refine own_take (v := ?v110) 26 (some 39) rfl rfl (by kernel_rfl) (fun _ _ _ h => h) rfl (by assumption) ?o110 ?_
            case o110 => (intro w hSw; (try dsimp only at hSw); go_simp; try (with_reducible rfl))
            try simp only [Act.put, List.setIfInBounds_toArray, List.set_cons_zero, List.set_cons_succ]
            refine own_take (v := ?v111) 27 (some 40) rfl rfl (by kernel_rfl) (fun _ _ _ h => h) rfl (by assumption) ?o111 ?_
            case o111 => (intro w hSw; (try dsimp only at hSw); go_simp; try (with_reducible rfl))
            try simp only [Act.put, List.setIfInBounds_toArray, List.set_cons_zero, List.set_cons_succ]
            refine own_take (v := ?v112) 28 (some 41) rfl rfl (by kernel_rfl) (fun _ _ _ h => h) rfl (by assumption) ?o112 ?_
            case o112 => (intro w hSw; (try dsimp only at hSw); go_simp; try (with_reducible rfl))
            try simp only [Act.put, List.setIfInBounds_toArray, List.set_cons_zero, List.set_cons_succ]
            refine own_take (v := ?v113) 29 (some 42) rfl rfl (by kernel_rfl) (fun _ _ _ h => h) rfl (by assumption) ?o113 ?_
            case o113 => (intro w hSw; (try dsimp only at hSw); go_simp; try (with_reducible rfl))
            try simp only [Act.put, List.setIfInBounds_toArray, List.set_cons_zero, List.set_cons_succ]
            refine own_step 30 (by kernel_rfl) rfl (fun K hK => ?_)
            go_simp
            (first | (go_at_call 237; refine (HC.out _ ?_).mono ?_; (go_split_ands; assumption); rintro e w1 ⟨rfl, hb1⟩) | (go_at_call 238; with_reducible refine (HHS.out _ ?_).mono ?_; (go_split_ands; assumption); rintro e w1 ⟨rfl, hb1⟩) | (go_at_call 238; with_reducible refine (HHD.out _ ?_).mono ?_; (go_split_ands; assumption); rintro e w1 ⟨rfl, hb1⟩))
            go_wp2_with fail
            refine hK.out _ _ ?o114 (fun hH2 => ?_)
            case o114 => ((try dsimp only); first | done | (first | (exact KS.out _ (Below.refl _ _)) | (exact KS.out _ (below_drewN (Below.refl _ _) 1)) | (go_split_ands; refine KS.out _ ?_; assumption)))
            clear hK K hH1
            try simp only [Act.put, List.setIfInBounds_toArray, List.set_cons_zero, List.set_cons_succ]
            refine own_take (v := ?v115) 31 (some 44) rfl rfl (by kernel_rfl) (fun _ _ _ h => h) rfl (by assumption) ?o115 ?_
            case o115 => (intro w hSw; (try dsimp only at hSw); go_simp; try (with_reducible rfl))
            try simp only [Act.put, List.setIfInBounds_toArray, List.set_cons_zero, List.set_cons_succ]
            refine own_take (v := ?v116) 32 (some 45) rfl rfl (by kernel_rfl) (fun _ _ _ h => h) rfl (by assumption) ?o116 ?_
            case o116 => (intro w hSw; (try dsimp only at hSw); go_simp; try (with_reducible rfl))
            try simp only [Act.put, List.setIfInBounds_toArray, List.set_cons_zero, List.set_cons_succ]
            refine own_take (v := ?v117) 33 (some 46) rfl rfl (by kernel_rfl) (fun _ _ _ h => h) rfl (by assumption) ?o117 ?_
            case o117 => (intro w hSw; (try dsimp only at hSw); go_simp; try (with_reducible rfl))
            try simp only [Act.put, List.setIfInBounds_toArray, List.set_cons_zero, List.set_cons_succ]
            refine own_skip 34 (some 47) rfl rfl (by kernel_rfl) (fun _ _ _ h => h) rfl (by assumption) ?_
            try simp only [Act.put, List.setIfInBounds_toArray, List.set_cons_zero, List.set_cons_succ]
            refine own_skip 35 (some 48) rfl rfl (by kernel_rfl) (fun _ _ _ h => h) rfl (by assumption) ?_
            try simp only [Act.put, List.setIfInBounds_toArray, List.set_cons_zero, List.set_cons_succ]
            refine own_skip 36 (some 49) rfl rfl (by kernel_rfl) (fun _ _ _ h => h) rfl (by assumption) ?_
            try simp only [Act.put, List.setIfInBounds_toArray, List.set_cons_zero, List.set_cons_succ]
            refine own_skip 37 (some 50) rfl rfl (by kernel_rfl) (fun _ _ _ h => h) rfl (by assumption) ?_
            try simp only [Act.put, List.setIfInBounds_toArray, List.set_cons_zero, List.set_cons_succ]
            refine own_skip 38 (some 51) rfl rfl (by kernel_rfl) (fun _ _ _ h => h) rfl (by assumption) ?_
            try simp only [Act.put, List.setIfInBounds_toArray, List.set_cons_zero, List.set_cons_succ]
            refine own_take (v := ?v123) 39 (some 52) rfl rfl (by kernel_rfl) (fun _ _ _ h => h) rfl (by assumption) ?o123 ?_
            case o123 => (intro w hSw; (try dsimp only at hSw); go_simp; try (with_reducible rfl))
            try simp only [Act.put, List.setIfInBounds_toArray, List.set_cons_zero, List.set_cons_succ]
            refine wpAnyH_done (by kernel_rfl) ?_ _
            go_wp2_with fail
            go_ret
            exact ⟨by rw [HT.out]; rfl, below_call hB0 hB0.size (below_call HB9.out HB9.out.size (by go_split_ands; assumption))⟩
          | true =>
            cases hd with
            | false =>
              have HT := Lib.hid (show r = false by rw [← HR.out]; exact range_not (by rw [HX.out, q2]; simp) hlt)
              refine wp_region_held_drew (S := (fun w' => w'.cell? ⟨wr.heap.size, 0, none⟩ = some (.int .i64 x.id) ∧ w'.cell? ⟨wr.heap.size, 1, none⟩ = some (.int .i64 x.src) ∧ w'.cell? ⟨wr.heap.size, 2, none⟩ = some (.int .i64 x.dst) ∧ w'.cell? ⟨wr.heap.size, 3, none⟩ = some (.string x.type) ∧ w'.cell? ⟨wr.heap.size, 4, none⟩ = some (.slice X2 x.props.length e2) ∧ w'.cell? ⟨w.heap.size, 0, none⟩ = some (.slice A1 g.nodes.length c1) ∧ w'.cell? ⟨w.heap.size, 1, none⟩ = some (.slice (some ⟨b, off, none⟩) g.rels.length c2) ∧ w'.cell? ⟨w.heap.size, 2, none⟩ = some (.int .i64 g.nextNode) ∧ w'.cell? ⟨w.heap.size, 3, none⟩ = some (.int .i64 g.nextRel) ∧ Below W1.heap.size W1 w')) (by kernel_rfl) ?o124 (fun hH0 => ?_)
              case o124 => ((try dsimp only); first | done | (first | (exact KS.out _ (Below.refl _ _)) | (exact KS.out _ (below_drewN (Below.refl _ _) 1)) | (go_split_ands; refine KS.out _ ?_; assumption)))
              refine own_take (v := ?v125) 0 (some 13) rfl rfl (by kernel_rfl) (fun _ _ _ h => h) rfl (by assumption) ?o125 ?_
              case o125 => (intro w hSw; (try dsimp only at hSw); go_simp; try (with_reducible rfl))
              try simp only [Act.put, List.setIfInBounds_toArray, List.set_cons_zero, List.set_cons_succ]
              refine own_step 1 (by kernel_rfl) rfl (fun K hK => ?_)
              go_simp
              (first | (go_at_call 237; refine (HC.out _ ?_).mono ?_; (go_split_ands; assumption); rintro e w1 ⟨rfl, hb1⟩) | (go_at_call 238; with_reducible refine (HHS.out _ ?_).mono ?_; (go_split_ands; assumption); rintro e w1 ⟨rfl, hb1⟩) | (go_at_call 238; with_reducible refine (HHD.out _ ?_).mono ?_; (go_split_ands; assumption); rintro e w1 ⟨rfl, hb1⟩))
              go_wp2_with fail
              refine hK.out _ _ ?o126 (fun hH1 => ?_)
              case o126 => ((try dsimp only); first | done | (first | (exact KS.out _ (Below.refl _ _)) | (exact KS.out _ (below_drewN (Below.refl _ _) 1)) | (go_split_ands; refine KS.out _ ?_; assumption)))
              clear hK K hH0
              try simp only [Act.put, List.setIfInBounds_toArray, List.set_cons_zero, List.set_cons_succ]
              refine own_take (v := ?v127) 2 (some 15) rfl rfl (by kernel_rfl) (fun _ _ _ h => h) rfl (by assumption) ?o127 ?_
              case o127 => (intro w hSw; (try dsimp only at hSw); go_simp; try (with_reducible rfl))
              try simp only [Act.put, List.setIfInBounds_toArray, List.set_cons_zero, List.set_cons_succ]
              refine own_take (v := ?v128) 3 (some 16) rfl rfl (by kernel_rfl) (fun _ _ _ h => h) rfl (by assumption) ?o128 ?_
              case o128 => (intro w hSw; (try dsimp only at hSw); go_simp; try (with_reducible rfl))
              try simp only [Act.put, List.setIfInBounds_toArray, List.set_cons_zero, List.set_cons_succ]
              refine own_take (v := ?v129) 4 (some 17) rfl rfl (by kernel_rfl) (fun _ _ _ h => h) rfl (by assumption) ?o129 ?_
              case o129 => (intro w hSw; (try dsimp only at hSw); go_simp; try (with_reducible rfl))
              try simp only [Act.put, List.setIfInBounds_toArray, List.set_cons_zero, List.set_cons_succ]
              refine own_take (v := ?v130) 5 (some 18) rfl rfl (by kernel_rfl) (fun _ _ _ h => h) rfl (by assumption) ?o130 ?_
              case o130 => (intro w hSw; (try dsimp only at hSw); go_simp; try (with_reducible rfl))
              try simp only [Act.put, List.setIfInBounds_toArray, List.set_cons_zero, List.set_cons_succ]
              refine own_take (v := ?v131) 6 (some 19) rfl rfl (by kernel_rfl) (fun _ _ _ h => h) rfl (by assumption) ?o131 ?_
              case o131 => (intro w hSw; (try dsimp only at hSw); go_simp; try (with_reducible rfl))
              try simp only [Act.put, List.setIfInBounds_toArray, List.set_cons_zero, List.set_cons_succ]
              refine own_take (v := ?v132) 7 (some 20) rfl rfl (by kernel_rfl) (fun _ _ _ h => h) rfl (by assumption) ?o132 ?_
              case o132 => (intro w hSw; (try dsimp only at hSw); go_simp; try (with_reducible rfl))
              try simp only [Act.put, List.setIfInBounds_toArray, List.set_cons_zero, List.set_cons_succ]
              refine own_take (v := ?v133) 8 (some 21) rfl rfl (by kernel_rfl) (fun _ _ _ h => h) rfl (by assumption) ?o133 ?_
              case o133 => (intro w hSw; (try dsimp only at hSw); go_simp; try (with_reducible rfl))
              try simp only [Act.put, List.setIfInBounds_toArray, List.set_cons_zero, List.set_cons_succ]
              refine own_take (v := ?v134) 9 (some 22) rfl rfl (by kernel_rfl) (fun _ _ _ h => h) rfl (by assumption) ?o134 ?_
              case o134 => (intro w hSw; (try dsimp only at hSw); go_simp; try (with_reducible rfl))
              try simp only [Act.put, List.setIfInBounds_toArray, List.set_cons_zero, List.set_cons_succ]
              refine own_take (v := ?v135) 10 (some 23) rfl rfl (by kernel_rfl) (fun _ _ _ h => h) rfl (by assumption) ?o135 ?_
              case o135 => (intro w hSw; (try dsimp only at hSw); go_simp; try (with_reducible rfl))
              try simp only [Act.put, List.setIfInBounds_toArray, List.set_cons_zero, List.set_cons_succ]
              refine own_take (v := ?v136) 11 (some 24) rfl rfl (by kernel_rfl) (fun _ _ _ h => h) rfl (by assumption) ?o136 ?_
              case o136 => (intro w hSw; (try dsimp only at hSw); go_simp; try (with_reducible rfl))
              try simp only [Act.put, List.setIfInBounds_toArray, List.set_cons_zero, List.set_cons_succ]
              refine own_take (v := ?v137) 12 (some 25) rfl rfl (by kernel_rfl) (fun _ _ _ h => h) rfl (by assumption) ?o137 ?_
              case o137 => (intro w hSw; (try dsimp only at hSw); go_simp; try (with_reducible rfl))
              try simp only [Act.put, List.setIfInBounds_toArray, List.set_cons_zero, List.set_cons_succ]
              refine own_take (v := ?v138) 13 (some 26) rfl rfl (by kernel_rfl) (fun _ _ _ h => h) rfl (by assumption) ?o138 ?_
              case o138 => (intro w hSw; (try dsimp only at hSw); go_simp; try (with_reducible rfl))
              try simp only [Act.put, List.setIfInBounds_toArray, List.set_cons_zero, List.set_cons_succ]
              refine own_skip 14 (some 27) rfl rfl (by kernel_rfl) (fun _ _ _ h => h) rfl (by assumption) ?_
              try simp only [Act.put, List.setIfInBounds_toArray, List.set_cons_zero, List.set_cons_succ]
              refine own_skip 15 (some 28) rfl rfl (by kernel_rfl) (fun _ _ _ h => h) rfl (by assumption) ?_
              try simp only [Act.put, List.setIfInBounds_toArray, List.set_cons_zero, List.set_cons_succ]
              refine own_skip 16 (some 29) rfl rfl (by kernel_rfl) (fun _ _ _ h => h) rfl (by assumption) ?_
              try simp only [Act.put, List.setIfInBounds_toArray, List.set_cons_zero, List.set_cons_succ]
              refine own_skip 17 (some 30) rfl rfl (by kernel_rfl) (fun _ _ _ h => h) rfl (by assumption) ?_
              try simp only [Act.put, List.setIfInBounds_toArray, List.set_cons_zero, List.set_cons_succ]
              refine own_skip 18 (some 31) rfl rfl (by kernel_rfl) (fun _ _ _ h => h) rfl (by assumption) ?_
              try simp only [Act.put, List.setIfInBounds_toArray, List.set_cons_zero, List.set_cons_succ]
              refine own_skip 19 (some 32) rfl rfl (by kernel_rfl) (fun _ _ _ h => h) rfl (by assumption) ?_
              try simp only [Act.put, List.setIfInBounds_toArray, List.set_cons_zero, List.set_cons_succ]
              refine own_skip 20 (some 33) rfl rfl (by kernel_rfl) (fun _ _ _ h => h) rfl (by assumption) ?_
              try simp only [Act.put, List.setIfInBounds_toArray, List.set_cons_zero, List.set_cons_succ]
              refine own_skip 21 (some 34) rfl rfl (by kernel_rfl) (fun _ _ _ h => h) rfl (by assumption) ?_
              try simp only [Act.put, List.setIfInBounds_toArray, List.set_cons_zero, List.set_cons_succ]
              refine own_skip 22 (some 35) rfl rfl (by kernel_rfl) (fun _ _ _ h => h) rfl (by assumption) ?_
              try simp only [Act.put, List.setIfInBounds_toArray, List.set_cons_zero, List.set_cons_succ]
              refine own_skip 23 (some 36) rfl rfl (by kernel_rfl) (fun _ _ _ h => h) rfl (by assumption) ?_
              try simp only [Act.put, List.setIfInBounds_toArray, List.set_cons_zero, List.set_cons_succ]
              refine own_take (v := ?v149) 24 (some 37) rfl rfl (by kernel_rfl) (fun _ _ _ h => h) rfl (by assumption) ?o149 ?_
              case o149 => (intro w hSw; (try dsimp only at hSw); go_simp; try (with_reducible rfl))
              try simp only [Act.put, List.setIfInBounds_toArray, List.set_cons_zero, List.set_cons_succ]
              refine own_take (v := ?v150) 25 (some 38) rfl rfl (by kernel_rfl) (fun _ _ _ h => h) rfl (by assumption) ?o150 ?_
              case o150 => (intro w hSw; (try dsimp only at hSw); go_simp; try (with_reducible rfl))
              try simp only [Act.put, List.setIfInBounds_toArray, List.set_cons_zero, List.set_cons_succ]
              refine own_take (v := ?v151) 26 (some 39) rfl rfl (by kernel_rfl) (fun _ _ _ h => h) rfl (by assumption) ?o151 ?_
              case o151 => (intro w hSw; (try dsimp only at hSw); go_simp; try (with_reducible rfl))
              try simp only [Act.put, List.setIfInBounds_toArray, List.set_cons_zero, List.set_cons_succ]
              refine own_take (v := ?v152) 27 (some 40) rfl rfl (by kernel_rfl) (fun _ _ _ h => h) rfl (by assumption) ?o152 ?_
              case o152 => (intro w hSw; (try dsimp only at hSw); go_simp; try (with_reducible rfl))
              try simp only [Act.put, List.setIfInBounds_toArray, List.set_cons_zero, List.set_cons_succ]
              refine own_take (v := ?v153) 28 (some 41) rfl rfl (by kernel_rfl) (fun _ _ _ h => h) rfl (by assumption) ?o153 ?_
              case o153 => (intro w hSw; (try dsimp only at hSw); go_simp; try (with_reducible rfl))
              try simp only [Act.put, List.setIfInBounds_toArray, List.set_cons_zero, List.set_cons_succ]
              refine own_take (v := ?v154) 29 (some 42) rfl rfl (by kernel_rfl) (fun _ _ _ h => h) rfl (by assumption) ?o154 ?_
              case o154 => (intro w hSw; (try dsimp only at hSw); go_simp; try (with_reducible rfl))
              try simp only [Act.put, List.setIfInBounds_toArray, List.set_cons_zero, List.set_cons_succ]
              refine own_step 30 (by kernel_rfl) rfl (fun K hK => ?_)
              go_simp
              (first | (go_at_call 237; refine (HC.out _ ?_).mono ?_; (go_split_ands; assumption); rintro e w1 ⟨rfl, hb1⟩) | (go_at_call 238; with_reducible refine (HHS.out _ ?_).mono ?_; (go_split_ands; assumption); rintro e w1 ⟨rfl, hb1⟩) | (go_at_call 238; with_reducible refine (HHD.out _ ?_).mono ?_; (go_split_ands; assumption); rintro e w1 ⟨rfl, hb1⟩))
              go_wp2_with fail
              refine hK.out _ _ ?o155 (fun hH2 => ?_)
              case o155 => ((try dsimp only); first | done | (first | (exact KS.out _ (Below.refl _ _)) | (exact KS.out _ (below_drewN (Below.refl _ _) 1)) | (go_split_ands; refine KS.out _ ?_; assumption)))
              clear hK K hH1
              try simp only [Act.put, List.setIfInBounds_toArray, List.set_cons_zero, List.set_cons_succ]
              refine own_take (v := ?v156) 31 (some 44) rfl rfl (by kernel_rfl) (fun _ _ _ h => h) rfl (by assumption) ?o156 ?_
              case o156 => (intro w hSw; (try dsimp only at hSw); go_simp; try (with_reducible rfl))
              try simp only [Act.put, List.setIfInBounds_toArray, List.set_cons_zero, List.set_cons_succ]
              refine own_take (v := ?v157) 32 (some 45) rfl rfl (by kernel_rfl) (fun _ _ _ h => h) rfl (by assumption) ?o157 ?_
              case o157 => (intro w hSw; (try dsimp only at hSw); go_simp; try (with_reducible rfl))
              try simp only [Act.put, List.setIfInBounds_toArray, List.set_cons_zero, List.set_cons_succ]
              refine own_take (v := ?v158) 33 (some 46) rfl rfl (by kernel_rfl) (fun _ _ _ h => h) rfl (by assumption) ?o158 ?_
              case o158 => (intro w hSw; (try dsimp only at hSw); go_simp; try (with_reducible rfl))
              try simp only [Act.put, List.setIfInBounds_toArray, List.set_cons_zero, List.set_cons_succ]
              refine own_take (v := ?v159) 34 (some 47) rfl rfl (by kernel_rfl) (fun _ _ _ h => h) rfl (by assumption) ?o159 ?_
              case o159 => (intro w hSw; (try dsimp only at hSw); go_simp; try (with_reducible rfl))
              try simp only [Act.put, List.setIfInBounds_toArray, List.set_cons_zero, List.set_cons_succ]
              refine own_take (v := ?v160) 35 (some 48) rfl rfl (by kernel_rfl) (fun _ _ _ h => h) rfl (by assumption) ?o160 ?_
              case o160 => (intro w hSw; (try dsimp only at hSw); go_simp; try (with_reducible rfl))
              try simp only [Act.put, List.setIfInBounds_toArray, List.set_cons_zero, List.set_cons_succ]
              refine own_take (v := ?v161) 36 (some 49) rfl rfl (by kernel_rfl) (fun _ _ _ h => h) rfl (by assumption) ?o161 ?_
              case o161 => (intro w hSw; (try dsimp only at hSw); go_simp; try (with_reducible rfl))
              try simp only [Act.put, List.setIfInBounds_toArray, List.set_cons_zero, List.set_cons_succ]
              refine own_step 37 (by kernel_rfl) rfl (fun K hK => ?_)
              go_simp
              (first | (go_at_call 237; refine (HC.out _ ?_).mono ?_; (go_split_ands; assumption); rintro e w1 ⟨rfl, hb1⟩) | (go_at_call 238; with_reducible refine (HHS.out _ ?_).mono ?_; (go_split_ands; assumption); rintro e w1 ⟨rfl, hb1⟩) | (go_at_call 238; with_reducible refine (HHD.out _ ?_).mono ?_; (go_split_ands; assumption); rintro e w1 ⟨rfl, hb1⟩))
              go_wp2_with fail
              refine hK.out _ _ ?o162 (fun hH3 => ?_)
              case o162 => ((try dsimp only); first | done | (first | (exact KS.out _ (Below.refl _ _)) | (exact KS.out _ (below_drewN (Below.refl _ _) 1)) | (go_split_ands; refine KS.out _ ?_; assumption)))
              clear hK K hH2
              try simp only [Act.put, List.setIfInBounds_toArray, List.set_cons_zero, List.set_cons_succ]
              refine own_take (v := ?v163) 38 (some 51) rfl rfl (by kernel_rfl) (fun _ _ _ h => h) rfl (by assumption) ?o163 ?_
              case o163 => (intro w hSw; (try dsimp only at hSw); go_simp; try (with_reducible rfl))
              try simp only [Act.put, List.setIfInBounds_toArray, List.set_cons_zero, List.set_cons_succ]
              refine own_take (v := ?v164) 39 (some 52) rfl rfl (by kernel_rfl) (fun _ _ _ h => h) rfl (by assumption) ?o164 ?_
              case o164 => (intro w hSw; (try dsimp only at hSw); go_simp; try (with_reducible rfl))
              try simp only [Act.put, List.setIfInBounds_toArray, List.set_cons_zero, List.set_cons_succ]
              refine wpAnyH_done (by kernel_rfl) ?_ _
              go_wp2_with fail
              go_ret
              exact ⟨by rw [HT.out]; rfl, below_call hB0 hB0.size (below_call HB9.out HB9.out.size (by go_split_ands; assumption))⟩
            | true =>
              have HT := Lib.hid (range_step HN.out (show relIn g.nodes g.rels g.nextRel 0 = true by rw [HX.out, q2]; simp))
              refine wp_region_held_drew (S := (fun w' => w'.cell? ⟨wr.heap.size, 0, none⟩ = some (.int .i64 x.id) ∧ w'.cell? ⟨wr.heap.size, 1, none⟩ = some (.int .i64 x.src) ∧ w'.cell? ⟨wr.heap.size, 2, none⟩ = some (.int .i64 x.dst) ∧ w'.cell? ⟨wr.heap.size, 3, none⟩ = some (.string x.type) ∧ w'.cell? ⟨wr.heap.size, 4, none⟩ = some (.slice X2 x.props.length e2) ∧ w'.cell? ⟨w.heap.size, 0, none⟩ = some (.slice A1 g.nodes.length c1) ∧ w'.cell? ⟨w.heap.size, 1, none⟩ = some (.slice (some ⟨b, off, none⟩) g.rels.length c2) ∧ w'.cell? ⟨w.heap.size, 2, none⟩ = some (.int .i64 g.nextNode) ∧ w'.cell? ⟨w.heap.size, 3, none⟩ = some (.int .i64 g.nextRel) ∧ Below W1.heap.size W1 w')) (by kernel_rfl) ?o165 (fun hH0 => ?_)
              case o165 => ((try dsimp only); first | done | (first | (exact KS.out _ (Below.refl _ _)) | (exact KS.out _ (below_drewN (Below.refl _ _) 1)) | (go_split_ands; refine KS.out _ ?_; assumption)))
              refine own_take (v := ?v166) 0 (some 13) rfl rfl (by kernel_rfl) (fun _ _ _ h => h) rfl (by assumption) ?o166 ?_
              case o166 => (intro w hSw; (try dsimp only at hSw); go_simp; try (with_reducible rfl))
              try simp only [Act.put, List.setIfInBounds_toArray, List.set_cons_zero, List.set_cons_succ]
              refine own_step 1 (by kernel_rfl) rfl (fun K hK => ?_)
              go_simp
              (first | (go_at_call 237; refine (HC.out _ ?_).mono ?_; (go_split_ands; assumption); rintro e w1 ⟨rfl, hb1⟩) | (go_at_call 238; with_reducible refine (HHS.out _ ?_).mono ?_; (go_split_ands; assumption); rintro e w1 ⟨rfl, hb1⟩) | (go_at_call 238; with_reducible refine (HHD.out _ ?_).mono ?_; (go_split_ands; assumption); rintro e w1 ⟨rfl, hb1⟩))
              go_wp2_with fail
              refine hK.out _ _ ?o167 (fun hH1 => ?_)
              case o167 => ((try dsimp only); first | done | (first | (exact KS.out _ (Below.refl _ _)) | (exact KS.out _ (below_drewN (Below.refl _ _) 1)) | (go_split_ands; refine KS.out _ ?_; assumption)))
              clear hK K hH0
              try simp only [Act.put, List.setIfInBounds_toArray, List.set_cons_zero, List.set_cons_succ]
              refine own_take (v := ?v168) 2 (some 15) rfl rfl (by kernel_rfl) (fun _ _ _ h => h) rfl (by assumption) ?o168 ?_
              case o168 => (intro w hSw; (try dsimp only at hSw); go_simp; try (with_reducible rfl))
              try simp only [Act.put, List.setIfInBounds_toArray, List.set_cons_zero, List.set_cons_succ]
              refine own_take (v := ?v169) 3 (some 16) rfl rfl (by kernel_rfl) (fun _ _ _ h => h) rfl (by assumption) ?o169 ?_
              case o169 => (intro w hSw; (try dsimp only at hSw); go_simp; try (with_reducible rfl))
              try simp only [Act.put, List.setIfInBounds_toArray, List.set_cons_zero, List.set_cons_succ]
              refine own_take (v := ?v170) 4 (some 17) rfl rfl (by kernel_rfl) (fun _ _ _ h => h) rfl (by assumption) ?o170 ?_
              case o170 => (intro w hSw; (try dsimp only at hSw); go_simp; try (with_reducible rfl))
              try simp only [Act.put, List.setIfInBounds_toArray, List.set_cons_zero, List.set_cons_succ]
              refine own_take (v := ?v171) 5 (some 18) rfl rfl (by kernel_rfl) (fun _ _ _ h => h) rfl (by assumption) ?o171 ?_
              case o171 => (intro w hSw; (try dsimp only at hSw); go_simp; try (with_reducible rfl))
              try simp only [Act.put, List.setIfInBounds_toArray, List.set_cons_zero, List.set_cons_succ]
              refine own_take (v := ?v172) 6 (some 19) rfl rfl (by kernel_rfl) (fun _ _ _ h => h) rfl (by assumption) ?o172 ?_
              case o172 => (intro w hSw; (try dsimp only at hSw); go_simp; try (with_reducible rfl))
              try simp only [Act.put, List.setIfInBounds_toArray, List.set_cons_zero, List.set_cons_succ]
              refine own_take (v := ?v173) 7 (some 20) rfl rfl (by kernel_rfl) (fun _ _ _ h => h) rfl (by assumption) ?o173 ?_
              case o173 => (intro w hSw; (try dsimp only at hSw); go_simp; try (with_reducible rfl))
              try simp only [Act.put, List.setIfInBounds_toArray, List.set_cons_zero, List.set_cons_succ]
              refine own_take (v := ?v174) 8 (some 21) rfl rfl (by kernel_rfl) (fun _ _ _ h => h) rfl (by assumption) ?o174 ?_
              case o174 => (intro w hSw; (try dsimp only at hSw); go_simp; try (with_reducible rfl))
              try simp only [Act.put, List.setIfInBounds_toArray, List.set_cons_zero, List.set_cons_succ]
              refine own_take (v := ?v175) 9 (some 22) rfl rfl (by kernel_rfl) (fun _ _ _ h => h) rfl (by assumption) ?o175 ?_
              case o175 => (intro w hSw; (try dsimp only at hSw); go_simp; try (with_reducible rfl))
              try simp only [Act.put, List.setIfInBounds_toArray, List.set_cons_zero, List.set_cons_succ]
              refine own_take (v := ?v176) 10 (some 23) rfl rfl (by kernel_rfl) (fun _ _ _ h => h) rfl (by assumption) ?o176 ?_
              case o176 => (intro w hSw; (try dsimp only at hSw); go_simp; try (with_reducible rfl))
              try simp only [Act.put, List.setIfInBounds_toArray, List.set_cons_zero, List.set_cons_succ]
              refine own_take (v := ?v177) 11 (some 24) rfl rfl (by kernel_rfl) (fun _ _ _ h => h) rfl (by assumption) ?o177 ?_
              case o177 => (intro w hSw; (try dsimp only at hSw); go_simp; try (with_reducible rfl))
              try simp only [Act.put, List.setIfInBounds_toArray, List.set_cons_zero, List.set_cons_succ]
              refine own_take (v := ?v178) 12 (some 25) rfl rfl (by kernel_rfl) (fun _ _ _ h => h) rfl (by assumption) ?o178 ?_
              case o178 => (intro w hSw; (try dsimp only at hSw); go_simp; try (with_reducible rfl))
              try simp only [Act.put, List.setIfInBounds_toArray, List.set_cons_zero, List.set_cons_succ]
              refine own_take (v := ?v179) 13 (some 26) rfl rfl (by kernel_rfl) (fun _ _ _ h => h) rfl (by assumption) ?o179 ?_
              case o179 => (intro w hSw; (try dsimp only at hSw); go_simp; try (with_reducible rfl))
              try simp only [Act.put, List.setIfInBounds_toArray, List.set_cons_zero, List.set_cons_succ]
              refine own_skip 14 (some 27) rfl rfl (by kernel_rfl) (fun _ _ _ h => h) rfl (by assumption) ?_
              try simp only [Act.put, List.setIfInBounds_toArray, List.set_cons_zero, List.set_cons_succ]
              refine own_skip 15 (some 28) rfl rfl (by kernel_rfl) (fun _ _ _ h => h) rfl (by assumption) ?_
              try simp only [Act.put, List.setIfInBounds_toArray, List.set_cons_zero, List.set_cons_succ]
              refine own_skip 16 (some 29) rfl rfl (by kernel_rfl) (fun _ _ _ h => h) rfl (by assumption) ?_
              try simp only [Act.put, List.setIfInBounds_toArray, List.set_cons_zero, List.set_cons_succ]
              refine own_skip 17 (some 30) rfl rfl (by kernel_rfl) (fun _ _ _ h => h) rfl (by assumption) ?_
              try simp only [Act.put, List.setIfInBounds_toArray, List.set_cons_zero, List.set_cons_succ]
              refine own_skip 18 (some 31) rfl rfl (by kernel_rfl) (fun _ _ _ h => h) rfl (by assumption) ?_
              try simp only [Act.put, List.setIfInBounds_toArray, List.set_cons_zero, List.set_cons_succ]
              refine own_skip 19 (some 32) rfl rfl (by kernel_rfl) (fun _ _ _ h => h) rfl (by assumption) ?_
              try simp only [Act.put, List.setIfInBounds_toArray, List.set_cons_zero, List.set_cons_succ]
              refine own_skip 20 (some 33) rfl rfl (by kernel_rfl) (fun _ _ _ h => h) rfl (by assumption) ?_
              try simp only [Act.put, List.setIfInBounds_toArray, List.set_cons_zero, List.set_cons_succ]
              refine own_skip 21 (some 34) rfl rfl (by kernel_rfl) (fun _ _ _ h => h) rfl (by assumption) ?_
              try simp only [Act.put, List.setIfInBounds_toArray, List.set_cons_zero, List.set_cons_succ]
              refine own_skip 22 (some 35) rfl rfl (by kernel_rfl) (fun _ _ _ h => h) rfl (by assumption) ?_
              try simp only [Act.put, List.setIfInBounds_toArray, List.set_cons_zero, List.set_cons_succ]
              refine own_skip 23 (some 36) rfl rfl (by kernel_rfl) (fun _ _ _ h => h) rfl (by assumption) ?_
              try simp only [Act.put, List.setIfInBounds_toArray, List.set_cons_zero, List.set_cons_succ]
              refine own_take (v := ?v190) 24 (some 37) rfl rfl (by kernel_rfl) (fun _ _ _ h => h) rfl (by assumption) ?o190 ?_
              case o190 => (intro w hSw; (try dsimp only at hSw); go_simp; try (with_reducible rfl))
              try simp only [Act.put, List.setIfInBounds_toArray, List.set_cons_zero, List.set_cons_succ]
              refine own_take (v := ?v191) 25 (some 38) rfl rfl (by kernel_rfl) (fun _ _ _ h => h) rfl (by assumption) ?o191 ?_
              case o191 => (intro w hSw; (try dsimp only at hSw); go_simp; try (with_reducible rfl))
              try simp only [Act.put, List.setIfInBounds_toArray, List.set_cons_zero, List.set_cons_succ]
              refine own_take (v := ?v192) 26 (some 39) rfl rfl (by kernel_rfl) (fun _ _ _ h => h) rfl (by assumption) ?o192 ?_
              case o192 => (intro w hSw; (try dsimp only at hSw); go_simp; try (with_reducible rfl))
              try simp only [Act.put, List.setIfInBounds_toArray, List.set_cons_zero, List.set_cons_succ]
              refine own_take (v := ?v193) 27 (some 40) rfl rfl (by kernel_rfl) (fun _ _ _ h => h) rfl (by assumption) ?o193 ?_
              case o193 => (intro w hSw; (try dsimp only at hSw); go_simp; try (with_reducible rfl))
              try simp only [Act.put, List.setIfInBounds_toArray, List.set_cons_zero, List.set_cons_succ]
              refine own_take (v := ?v194) 28 (some 41) rfl rfl (by kernel_rfl) (fun _ _ _ h => h) rfl (by assumption) ?o194 ?_
              case o194 => (intro w hSw; (try dsimp only at hSw); go_simp; try (with_reducible rfl))
              try simp only [Act.put, List.setIfInBounds_toArray, List.set_cons_zero, List.set_cons_succ]
              refine own_take (v := ?v195) 29 (some 42) rfl rfl (by kernel_rfl) (fun _ _ _ h => h) rfl (by assumption) ?o195 ?_
              case o195 => (intro w hSw; (try dsimp only at hSw); go_simp; try (with_reducible rfl))
              try simp only [Act.put, List.setIfInBounds_toArray, List.set_cons_zero, List.set_cons_succ]
              refine own_step 30 (by kernel_rfl) rfl (fun K hK => ?_)
              go_simp
              (first | (go_at_call 237; refine (HC.out _ ?_).mono ?_; (go_split_ands; assumption); rintro e w1 ⟨rfl, hb1⟩) | (go_at_call 238; with_reducible refine (HHS.out _ ?_).mono ?_; (go_split_ands; assumption); rintro e w1 ⟨rfl, hb1⟩) | (go_at_call 238; with_reducible refine (HHD.out _ ?_).mono ?_; (go_split_ands; assumption); rintro e w1 ⟨rfl, hb1⟩))
              go_wp2_with fail
              refine hK.out _ _ ?o196 (fun hH2 => ?_)
              case o196 => ((try dsimp only); first | done | (first | (exact KS.out _ (Below.refl _ _)) | (exact KS.out _ (below_drewN (Below.refl _ _) 1)) | (go_split_ands; refine KS.out _ ?_; assumption)))
              clear hK K hH1
              try simp only [Act.put, List.setIfInBounds_toArray, List.set_cons_zero, List.set_cons_succ]
              refine own_take (v := ?v197) 31 (some 44) rfl rfl (by kernel_rfl) (fun _ _ _ h => h) rfl (by assumption) ?o197 ?_
              case o197 => (intro w hSw; (try dsimp only at hSw); go_simp; try (with_reducible rfl))
              try simp only [Act.put, List.setIfInBounds_toArray, List.set_cons_zero, List.set_cons_succ]
              refine own_take (v := ?v198) 32 (some 45) rfl rfl (by kernel_rfl) (fun _ _ _ h => h) rfl (by assumption) ?o198 ?_
              case o198 => (intro w hSw; (try dsimp only at hSw); go_simp; try (with_reducible rfl))
              try simp only [Act.put, List.setIfInBounds_toArray, List.set_cons_zero, List.set_cons_succ]
              refine own_take (v := ?v199) 33 (some 46) rfl rfl (by kernel_rfl) (fun _ _ _ h => h) rfl (by assumption) ?o199 ?_
              case o199 => (intro w hSw; (try dsimp only at hSw); go_simp; try (with_reducible rfl))
              try simp only [Act.put, List.setIfInBounds_toArray, List.set_cons_zero, List.set_cons_succ]
              refine own_take (v := ?v200) 34 (some 47) rfl rfl (by kernel_rfl) (fun _ _ _ h => h) rfl (by assumption) ?o200 ?_
              case o200 => (intro w hSw; (try dsimp only at hSw); go_simp; try (with_reducible rfl))
              try simp only [Act.put, List.setIfInBounds_toArray, List.set_cons_zero, List.set_cons_succ]
              refine own_take (v := ?v201) 35 (some 48) rfl rfl (by kernel_rfl) (fun _ _ _ h => h) rfl (by assumption) ?o201 ?_
              case o201 => (intro w hSw; (try dsimp only at hSw); go_simp; try (with_reducible rfl))
              try simp only [Act.put, List.setIfInBounds_toArray, List.set_cons_zero, List.set_cons_succ]
              refine own_take (v := ?v202) 36 (some 49) rfl rfl (by kernel_rfl) (fun _ _ _ h => h) rfl (by assumption) ?o202 ?_
              case o202 => (intro w hSw; (try dsimp only at hSw); go_simp; try (with_reducible rfl))
              try simp only [Act.put, List.setIfInBounds_toArray, List.set_cons_zero, List.set_cons_succ]
              refine own_step 37 (by kernel_rfl) rfl (fun K hK => ?_)
              go_simp
              (first | (go_at_call 237; refine (HC.out _ ?_).mono ?_; (go_split_ands; assumption); rintro e w1 ⟨rfl, hb1⟩) | (go_at_call 238; with_reducible refine (HHS.out _ ?_).mono ?_; (go_split_ands; assumption); rintro e w1 ⟨rfl, hb1⟩) | (go_at_call 238; with_reducible refine (HHD.out _ ?_).mono ?_; (go_split_ands; assumption); rintro e w1 ⟨rfl, hb1⟩))
              go_wp2_with fail
              refine hK.out _ _ ?o203 (fun hH3 => ?_)
              case o203 => ((try dsimp only); first | done | (first | (exact KS.out _ (Below.refl _ _)) | (exact KS.out _ (below_drewN (Below.refl _ _) 1)) | (go_split_ands; refine KS.out _ ?_; assumption)))
              clear hK K hH2
              try simp only [Act.put, List.setIfInBounds_toArray, List.set_cons_zero, List.set_cons_succ]
              refine own_take (v := ?v204) 38 (some 51) rfl rfl (by kernel_rfl) (fun _ _ _ h => h) rfl (by assumption) ?o204 ?_
              case o204 => (intro w hSw; (try dsimp only at hSw); go_simp; try (with_reducible rfl))
              try simp only [Act.put, List.setIfInBounds_toArray, List.set_cons_zero, List.set_cons_succ]
              refine own_take (v := ?v205) 39 (some 52) rfl rfl (by kernel_rfl) (fun _ _ _ h => h) rfl (by assumption) ?o205 ?_
              case o205 => (intro w hSw; (try dsimp only at hSw); go_simp; try (with_reducible rfl))
              try simp only [Act.put, List.setIfInBounds_toArray, List.set_cons_zero, List.set_cons_succ]
              refine wpAnyH_done (by kernel_rfl) ?_ _
              go_wp2_with fail
              go_roundw
              case rel => exact ⟨0 + 1, by omega, by go_num, HT, below_call HB9.out HB9.out.size (by go_split_ands; assumption)⟩
              case measure => simp [intOf]; omega
      | succ m =>
        simp only [Nat.add_sub_cancel] at HX
        obtain ⟨pid, HPID⟩ : ∃ q, Hid ((rAt g.rels m).id = q) := ⟨_, Lib.hid rfl⟩
        have HPV' := HPV.out m rfl
        rw [HPID.out] at HX HPV'
        have HPW := Lib.hid HPV'
        clear HPV HPV'
        have KS := Lib.hid (show ∀ w', Below W1.heap.size W1 w' → w'.cell? ⟨wr.heap.size, 0, none⟩ = some (.int .i64 x.id) ∧ w'.cell? ⟨wr.heap.size, 1, none⟩ = some (.int .i64 x.src) ∧ w'.cell? ⟨wr.heap.size, 2, none⟩ = some (.int .i64 x.dst) ∧ w'.cell? ⟨wr.heap.size, 3, none⟩ = some (.string x.type) ∧ w'.cell? ⟨wr.heap.size, 4, none⟩ = some (.slice X2 x.props.length e2) ∧ w'.cell? ⟨w.heap.size, 0, none⟩ = some (.slice A1 g.nodes.length c1) ∧ w'.cell? ⟨w.heap.size, 1, none⟩ = some (.slice (some ⟨b, off, none⟩) g.rels.length c2) ∧ w'.cell? ⟨w.heap.size, 2, none⟩ = some (.int .i64 g.nextNode) ∧ w'.cell? ⟨w.heap.size, 3, none⟩ = some (.int .i64 g.nextRel) ∧ w'.cell? ⟨b, off + m * 5, none⟩ = some (.int .i64 pid) ∧ Below W1.heap.size W1 w' from fun w' hb => by
          have z := HPW.out w' (below_call hB1 hB1.size hb)
          exact ⟨(bx.below hb).rd.1 0, (bx.below hb).rd.1 1, (bx.below hb).rd.1 2, (bx.below hb).rd.1 3, (bx.below hb).rd.1 4, (b2.below hb).rd.1 0, (b2.below hb).rd.1 1, (b2.below hb).rd.1 2, (b2.below hb).rd.1 3, z, hb⟩)
        obtain ⟨m1, m2, m3, m4, m5, m6, m7, m8, m9, m10, m11⟩ := KS.out W1 (Below.refl _ _)
        clear bx b2 hWx hB1 HPW m11
        have hw := Lib.hid (show IntKind.i64.wrap ((m : Int) + 1 - 1) = (m : Int) by rw [show (m : Int) + 1 - 1 = (m : Int) by omega]; exact IntWalk.i64_in _ (by omega))
        have hw2_ := Lib.hid (show IntKind.i64.wrap (m : Int) = (m : Int) from IntWalk.i64_in _ (by omega))
        have hltm : m < g.rels.length := by omega
        have q0 : decide ((0 : Int) < (m : Int) + 1) = true := decide_eq_true (by omega)
        cases ok with
        | false =>
          have HT := Lib.hid (show r = false by rw [← HR.out]; exact range_not (by rw [HX.out]; simp) hlt)
          have hw' := hw.out
          have hw2 := hw2_.out
          refine wp_region_held_drew (S := (fun w' => w'.cell? ⟨wr.heap.size, 0, none⟩ = some (.int .i64 x.id) ∧ w'.cell? ⟨wr.heap.size, 1, none⟩ = some (.int .i64 x.src) ∧ w'.cell? ⟨wr.heap.size, 2, none⟩ = some (.int .i64 x.dst) ∧ w'.cell? ⟨wr.heap.size, 3, none⟩ = some (.string x.type) ∧ w'.cell? ⟨wr.heap.size, 4, none⟩ = some (.slice X2 x.props.length e2) ∧ w'.cell? ⟨w.heap.size, 0, none⟩ = some (.slice A1 g.nodes.length c1) ∧ w'.cell? ⟨w.heap.size, 1, none⟩ = some (.slice (some ⟨b, off, none⟩) g.rels.length c2) ∧ w'.cell? ⟨w.heap.size, 2, none⟩ = some (.int .i64 g.nextNode) ∧ w'.cell? ⟨w.heap.size, 3, none⟩ = some (.int .i64 g.nextRel) ∧ w'.cell? ⟨b, off + m * 5, none⟩ = some (.int .i64 pid) ∧ Below W1.heap.size W1 w')) (by kernel_rfl) ?o206 (fun hH0 => ?_)
          case o206 => ((try dsimp only); first | done | (first | (exact KS.out _ (Below.refl _ _)) | (exact KS.out _ (below_drewN (Below.refl _ _) 1)) | (go_split_ands; refine KS.out _ ?_; assumption)))
          refine own_take (v := ?v207) 0 (some 13) rfl rfl (by kernel_rfl) (fun _ _ _ h => h) rfl (by assumption) ?o207 ?_
          case o207 => (intro w hSw; (try dsimp only at hSw); go_simp; try (with_reducible rfl))
          try simp only [Act.put, List.setIfInBounds_toArray, List.set_cons_zero, List.set_cons_succ]
          refine own_step 1 (by kernel_rfl) rfl (fun K hK => ?_)
          go_simp
          (first | (go_at_call 237; refine (HC.out _ ?_).mono ?_; (go_split_ands; assumption); rintro e w1 ⟨rfl, hb1⟩) | (go_at_call 238; with_reducible refine (HHS.out _ ?_).mono ?_; (go_split_ands; assumption); rintro e w1 ⟨rfl, hb1⟩) | (go_at_call 238; with_reducible refine (HHD.out _ ?_).mono ?_; (go_split_ands; assumption); rintro e w1 ⟨rfl, hb1⟩))
          go_wp2_with fail
          refine hK.out _ _ ?o208 (fun hH1 => ?_)
          case o208 => ((try dsimp only); first | done | (first | (exact KS.out _ (Below.refl _ _)) | (exact KS.out _ (below_drewN (Below.refl _ _) 1)) | (go_split_ands; refine KS.out _ ?_; assumption)))
          clear hK K hH0
          try simp only [Act.put, List.setIfInBounds_toArray, List.set_cons_zero, List.set_cons_succ]
          refine own_take (v := ?v209) 2 (some 15) rfl rfl (by kernel_rfl) (fun _ _ _ h => h) rfl (by assumption) ?o209 ?_
          case o209 => (intro w hSw; (try dsimp only at hSw); go_simp; try (with_reducible rfl))
          try simp only [Act.put, List.setIfInBounds_toArray, List.set_cons_zero, List.set_cons_succ]
          refine own_take (v := ?v210) 3 (some 16) rfl rfl (by kernel_rfl) (fun _ _ _ h => h) rfl (by assumption) ?o210 ?_
          case o210 => (intro w hSw; (try dsimp only at hSw); go_simp; try (with_reducible rfl))
          try simp only [Act.put, List.setIfInBounds_toArray, List.set_cons_zero, List.set_cons_succ]
          refine own_skip 4 (some 17) rfl rfl (by kernel_rfl) (fun _ _ _ h => h) rfl (by assumption) ?_
          try simp only [Act.put, List.setIfInBounds_toArray, List.set_cons_zero, List.set_cons_succ]
          refine own_skip 5 (some 18) rfl rfl (by kernel_rfl) (fun _ _ _ h => h) rfl (by assumption) ?_
          try simp only [Act.put, List.setIfInBounds_toArray, List.set_cons_zero, List.set_cons_succ]
          refine own_skip 6 (some 19) rfl rfl (by kernel_rfl) (fun _ _ _ h => h) rfl (by assumption) ?_
          try simp only [Act.put, List.setIfInBounds_toArray, List.set_cons_zero, List.set_cons_succ]
          refine own_skip 7 (some 20) rfl rfl (by kernel_rfl) (fun _ _ _ h => h) rfl (by assumption) ?_
          try simp only [Act.put, List.setIfInBounds_toArray, List.set_cons_zero, List.set_cons_succ]
          refine own_skip 8 (some 21) rfl rfl (by kernel_rfl) (fun _ _ _ h => h) rfl (by assumption) ?_
          try simp only [Act.put, List.setIfInBounds_toArray, List.set_cons_zero, List.set_cons_succ]
          refine own_take (v := ?v216) 9 (some 22) rfl rfl (by kernel_rfl) (fun _ _ _ h => h) rfl (by assumption) ?o216 ?_
          case o216 => (intro w hSw; (try dsimp only at hSw); go_simp; try (with_reducible rfl))
          try simp only [Act.put, List.setIfInBounds_toArray, List.set_cons_zero, List.set_cons_succ]
          refine own_take (v := ?v217) 10 (some 23) rfl rfl (by kernel_rfl) (fun _ _ _ h => h) rfl (by assumption) ?o217 ?_
          case o217 => (intro w hSw; (try dsimp only at hSw); go_simp; try (with_reducible rfl))
          try simp only [Act.put, List.setIfInBounds_toArray, List.set_cons_zero, List.set_cons_succ]
          refine own_skip 11 (some 24) rfl rfl (by kernel_rfl) (fun _ _ _ h => h) rfl (by assumption) ?_
          try simp only [Act.put, List.setIfInBounds_toArray, List.set_cons_zero, List.set_cons_succ]
          refine own_skip 12 (some 25) rfl rfl (by kernel_rfl) (fun _ _ _ h => h) rfl (by assumption) ?_
          try simp only [Act.put, List.setIfInBounds_toArray, List.set_cons_zero, List.set_cons_succ]
          refine own_skip 13 (some 26) rfl rfl (by kernel_rfl) (fun _ _ _ h => h) rfl (by assumption) ?_
          try simp only [Act.put, List.setIfInBounds_toArray, List.set_cons_zero, List.set_cons_succ]
          refine own_skip 14 (some 27) rfl rfl (by kernel_rfl) (fun _ _ _ h => h) rfl (by assumption) ?_
          try simp only [Act.put, List.setIfInBounds_toArray, List.set_cons_zero, List.set_cons_succ]
          refine own_skip 15 (some 28) rfl rfl (by kernel_rfl) (fun _ _ _ h => h) rfl (by assumption) ?_
          try simp only [Act.put, List.setIfInBounds_toArray, List.set_cons_zero, List.set_cons_succ]
          refine own_skip 16 (some 29) rfl rfl (by kernel_rfl) (fun _ _ _ h => h) rfl (by assumption) ?_
          try simp only [Act.put, List.setIfInBounds_toArray, List.set_cons_zero, List.set_cons_succ]
          refine own_skip 17 (some 30) rfl rfl (by kernel_rfl) (fun _ _ _ h => h) rfl (by assumption) ?_
          try simp only [Act.put, List.setIfInBounds_toArray, List.set_cons_zero, List.set_cons_succ]
          refine own_skip 18 (some 31) rfl rfl (by kernel_rfl) (fun _ _ _ h => h) rfl (by assumption) ?_
          try simp only [Act.put, List.setIfInBounds_toArray, List.set_cons_zero, List.set_cons_succ]
          refine own_skip 19 (some 32) rfl rfl (by kernel_rfl) (fun _ _ _ h => h) rfl (by assumption) ?_
          try simp only [Act.put, List.setIfInBounds_toArray, List.set_cons_zero, List.set_cons_succ]
          refine own_skip 20 (some 33) rfl rfl (by kernel_rfl) (fun _ _ _ h => h) rfl (by assumption) ?_
          try simp only [Act.put, List.setIfInBounds_toArray, List.set_cons_zero, List.set_cons_succ]
          refine own_skip 21 (some 34) rfl rfl (by kernel_rfl) (fun _ _ _ h => h) rfl (by assumption) ?_
          try simp only [Act.put, List.setIfInBounds_toArray, List.set_cons_zero, List.set_cons_succ]
          refine own_skip 22 (some 35) rfl rfl (by kernel_rfl) (fun _ _ _ h => h) rfl (by assumption) ?_
          try simp only [Act.put, List.setIfInBounds_toArray, List.set_cons_zero, List.set_cons_succ]
          refine own_skip 23 (some 36) rfl rfl (by kernel_rfl) (fun _ _ _ h => h) rfl (by assumption) ?_
          try simp only [Act.put, List.setIfInBounds_toArray, List.set_cons_zero, List.set_cons_succ]
          refine own_skip 24 (some 37) rfl rfl (by kernel_rfl) (fun _ _ _ h => h) rfl (by assumption) ?_
          try simp only [Act.put, List.setIfInBounds_toArray, List.set_cons_zero, List.set_cons_succ]
          refine own_take (v := ?v232) 25 (some 38) rfl rfl (by kernel_rfl) (fun _ _ _ h => h) rfl (by assumption) ?o232 ?_
          case o232 => (intro w hSw; (try dsimp only at hSw); go_simp; try (with_reducible rfl))
          try simp only [Act.put, List.setIfInBounds_toArray, List.set_cons_zero, List.set_cons_succ]
          refine own_take (v := ?v233) 26 (some 39) rfl rfl (by kernel_rfl) (fun _ _ _ h => h) rfl (by assumption) ?o233 ?_
          case o233 => (intro w hSw; (try dsimp only at hSw); go_simp; try (with_reducible rfl))
          try simp only [Act.put, List.setIfInBounds_toArray, List.set_cons_zero, List.set_cons_succ]
          refine own_skip 27 (some 40) rfl rfl (by kernel_rfl) (fun _ _ _ h => h) rfl (by assumption) ?_
          try simp only [Act.put, List.setIfInBounds_toArray, List.set_cons_zero, List.set_cons_succ]
          refine own_skip 28 (some 41) rfl rfl (by kernel_rfl) (fun _ _ _ h => h) rfl (by assumption) ?_
          try simp only [Act.put, List.setIfInBounds_toArray, List.set_cons_zero, List.set_cons_succ]
          refine own_skip 29 (some 42) rfl rfl (by kernel_rfl) (fun _ _ _ h => h) rfl (by assumption) ?_
          try simp only [Act.put, List.setIfInBounds_toArray, List.set_cons_zero, List.set_cons_succ]
          refine own_skip 30 (some 43) rfl rfl (by kernel_rfl) (fun _ _ _ h => h) rfl (by assumption) ?_
          try simp only [Act.put, List.setIfInBounds_toArray, List.set_cons_zero, List.set_cons_succ]
          refine own_skip 31 (some 44) rfl rfl (by kernel_rfl) (fun _ _ _ h => h) rfl (by assumption) ?_
          try simp only [Act.put, List.setIfInBounds_toArray, List.set_cons_zero, List.set_cons_succ]
          refine own_take (v := ?v239) 32 (some 45) rfl rfl (by kernel_rfl) (fun _ _ _ h => h) rfl (by assumption) ?o239 ?_
          case o239 => (intro w hSw; (try dsimp only at hSw); go_simp; try (with_reducible rfl))
          try simp only [Act.put, List.setIfInBounds_toArray, List.set_cons_zero, List.set_cons_succ]
          refine own_take (v := ?v240) 33 (some 46) rfl rfl (by kernel_rfl) (fun _ _ _ h => h) rfl (by assumption) ?o240 ?_
          case o240 => (intro w hSw; (try dsimp only at hSw); go_simp; try (with_reducible rfl))
          try simp only [Act.put, List.setIfInBounds_toArray, List.set_cons_zero, List.set_cons_succ]
          refine own_skip 34 (some 47) rfl rfl (by kernel_rfl) (fun _ _ _ h => h) rfl (by assumption) ?_
          try simp only [Act.put, List.setIfInBounds_toArray, List.set_cons_zero, List.set_cons_succ]
          refine own_skip 35 (some 48) rfl rfl (by kernel_rfl) (fun _ _ _ h => h) rfl (by assumption) ?_
          try simp only [Act.put, List.setIfInBounds_toArray, List.set_cons_zero, List.set_cons_succ]
          refine own_skip 36 (some 49) rfl rfl (by kernel_rfl) (fun _ _ _ h => h) rfl (by assumption) ?_
          try simp only [Act.put, List.setIfInBounds_toArray, List.set_cons_zero, List.set_cons_succ]
          refine own_skip 37 (some 50) rfl rfl (by kernel_rfl) (fun _ _ _ h => h) rfl (by assumption) ?_
          try simp only [Act.put, List.setIfInBounds_toArray, List.set_cons_zero, List.set_cons_succ]
          refine own_skip 38 (some 51) rfl rfl (by kernel_rfl) (fun _ _ _ h => h) rfl (by assumption) ?_
          try simp only [Act.put, List.setIfInBounds_toArray, List.set_cons_zero, List.set_cons_succ]
          refine own_take (v := ?v246) 39 (some 52) rfl rfl (by kernel_rfl) (fun _ _ _ h => h) rfl (by assumption) ?o246 ?_
          case o246 => (intro w hSw; (try dsimp only at hSw); go_simp; try (with_reducible rfl))
          try simp only [Act.put, List.setIfInBounds_toArray, List.set_cons_zero, List.set_cons_succ]
          refine wpAnyH_done (by kernel_rfl) ?_ _
          go_wp2_with fail
          go_ret
          exact ⟨by rw [HT.out]; rfl, below_call hB0 hB0.size (below_call HB9.out HB9.out.size (by go_split_ands; assumption))⟩
        | true =>
          by_cases hid : x.id < g.nextRel
          case neg =>
            have q1 : decide (g.nextRel ≤ x.id) = true := decide_eq_true (by omega)
            have q2 : decide (x.id < g.nextRel) = false := decide_eq_false hid
            have HT := Lib.hid (show r = false by rw [← HR.out]; exact range_not (by rw [HX.out, q2]; simp) hlt)
            have hw' := hw.out
            have hw2 := hw2_.out
            refine wp_region_held_drew (S := (fun w' => w'.cell? ⟨wr.heap.size, 0, none⟩ = some (.int .i64 x.id) ∧ w'.cell? ⟨wr.heap.size, 1, none⟩ = some (.int .i64 x.src) ∧ w'.cell? ⟨wr.heap.size, 2, none⟩ = some (.int .i64 x.dst) ∧ w'.cell? ⟨wr.heap.size, 3, none⟩ = some (.string x.type) ∧ w'.cell? ⟨wr.heap.size, 4, none⟩ = some (.slice X2 x.props.length e2) ∧ w'.cell? ⟨w.heap.size, 0, none⟩ = some (.slice A1 g.nodes.length c1) ∧ w'.cell? ⟨w.heap.size, 1, none⟩ = some (.slice (some ⟨b, off, none⟩) g.rels.length c2) ∧ w'.cell? ⟨w.heap.size, 2, none⟩ = some (.int .i64 g.nextNode) ∧ w'.cell? ⟨w.heap.size, 3, none⟩ = some (.int .i64 g.nextRel) ∧ w'.cell? ⟨b, off + m * 5, none⟩ = some (.int .i64 pid) ∧ Below W1.heap.size W1 w')) (by kernel_rfl) ?o247 (fun hH0 => ?_)
            case o247 => ((try dsimp only); first | done | (first | (exact KS.out _ (Below.refl _ _)) | (exact KS.out _ (below_drewN (Below.refl _ _) 1)) | (go_split_ands; refine KS.out _ ?_; assumption)))
            refine own_take (v := ?v248) 0 (some 13) rfl rfl (by kernel_rfl) (fun _ _ _ h => h) rfl (by assumption) ?o248 ?_
            case o248 => (intro w hSw; (try dsimp only at hSw); go_simp; try (with_reducible rfl))
            try simp only [Act.put, List.setIfInBounds_toArray, List.set_cons_zero, List.set_cons_succ]
            refine own_step 1 (by kernel_rfl) rfl (fun K hK => ?_)
            go_simp
            (first | (go_at_call 237; refine (HC.out _ ?_).mono ?_; (go_split_ands; assumption); rintro e w1 ⟨rfl, hb1⟩) | (go_at_call 238; with_reducible refine (HHS.out _ ?_).mono ?_; (go_split_ands; assumption); rintro e w1 ⟨rfl, hb1⟩) | (go_at_call 238; with_reducible refine (HHD.out _ ?_).mono ?_; (go_split_ands; assumption); rintro e w1 ⟨rfl, hb1⟩))
            go_wp2_with fail
            refine hK.out _ _ ?o249 (fun hH1 => ?_)
            case o249 => ((try dsimp only); first | done | (first | (exact KS.out _ (Below.refl _ _)) | (exact KS.out _ (below_drewN (Below.refl _ _) 1)) | (go_split_ands; refine KS.out _ ?_; assumption)))
            clear hK K hH0
            try simp only [Act.put, List.setIfInBounds_toArray, List.set_cons_zero, List.set_cons_succ]
            refine own_take (v := ?v250) 2 (some 15) rfl rfl (by kernel_rfl) (fun _ _ _ h => h) rfl (by assumption) ?o250 ?_
            case o250 => (intro w hSw; (try dsimp only at hSw); go_simp; try (with_reducible rfl))
            try simp only [Act.put, List.setIfInBounds_toArray, List.set_cons_zero, List.set_cons_succ]
            refine own_take (v := ?v251) 3 (some 16) rfl rfl (by kernel_rfl) (fun _ _ _ h => h) rfl (by assumption) ?o251 ?_
            case o251 => (intro w hSw; (try dsimp only at hSw); go_simp; try (with_reducible rfl))
            try simp only [Act.put, List.setIfInBounds_toArray, List.set_cons_zero, List.set_cons_succ]
            refine own_take (v := ?v252) 4 (some 17) rfl rfl (by kernel_rfl) (fun _ _ _ h => h) rfl (by assumption) ?o252 ?_
            case o252 => (intro w hSw; (try dsimp only at hSw); go_simp; try (with_reducible rfl))
            try simp only [Act.put, List.setIfInBounds_toArray, List.set_cons_zero, List.set_cons_succ]
            refine own_take (v := ?v253) 5 (some 18) rfl rfl (by kernel_rfl) (fun _ _ _ h => h) rfl (by assumption) ?o253 ?_
            case o253 => (intro w hSw; (try dsimp only at hSw); go_simp; try (with_reducible rfl))
            try simp only [Act.put, List.setIfInBounds_toArray, List.set_cons_zero, List.set_cons_succ]
            refine own_take (v := ?v254) 6 (some 19) rfl rfl (by kernel_rfl) (fun _ _ _ h => h) rfl (by assumption) ?o254 ?_
            case o254 => (intro w hSw; (try dsimp only at hSw); go_simp; try (with_reducible rfl))
            try simp only [Act.put, List.setIfInBounds_toArray, List.set_cons_zero, List.set_cons_succ]
            refine own_take (v := ?v255) 7 (some 20) rfl rfl (by kernel_rfl) (fun _ _ _ h => h) rfl (by assumption) ?o255 ?_
            case o255 => (intro w hSw; (try dsimp only at hSw); go_simp; try (with_reducible rfl))
            try simp only [Act.put, List.setIfInBounds_toArray, List.set_cons_zero, List.set_cons_succ]
            refine own_take (v := ?v256) 8 (some 21) rfl rfl (by kernel_rfl) (fun _ _ _ h => h) rfl (by assumption) ?o256 ?_
            case o256 => (intro w hSw; (try dsimp only at hSw); go_simp; try (with_reducible rfl))
            try simp only [Act.put, List.setIfInBounds_toArray, List.set_cons_zero, List.set_cons_succ]
            refine own_take (v := ?v257) 9 (some 22) rfl rfl (by kernel_rfl) (fun _ _ _ h => h) rfl (by assumption) ?o257 ?_
            case o257 => (intro w hSw; (try dsimp only at hSw); go_simp; try (with_reducible rfl))
            try simp only [Act.put, List.setIfInBounds_toArray, List.set_cons_zero, List.set_cons_succ]
            refine own_take (v := ?v258) 10 (some 23) rfl rfl (by kernel_rfl) (fun _ _ _ h => h) rfl (by assumption) ?o258 ?_
            case o258 => (intro w hSw; (try dsimp only at hSw); go_simp; try (with_reducible rfl))
            try simp only [Act.put, List.setIfInBounds_toArray, List.set_cons_zero, List.set_cons_succ]
            refine own_skip 11 (some 24) rfl rfl (by kernel_rfl) (fun _ _ _ h => h) rfl (by assumption) ?_
            try simp only [Act.put, List.setIfInBounds_toArray, List.set_cons_zero, List.set_cons_succ]
            refine own_skip 12 (some 25) rfl rfl (by kernel_rfl) (fun _ _ _ h => h) rfl (by assumption) ?_
            try simp only [Act.put, List.setIfInBounds_toArray, List.set_cons_zero, List.set_cons_succ]
            refine own_skip 13 (some 26) rfl rfl (by kernel_rfl) (fun _ _ _ h => h) rfl (by assumption) ?_
            try simp only [Act.put, List.setIfInBounds_toArray, List.set_cons_zero, List.set_cons_succ]
            refine own_skip 14 (some 27) rfl rfl (by kernel_rfl) (fun _ _ _ h => h) rfl (by assumption) ?_
            try simp only [Act.put, List.setIfInBounds_toArray, List.set_cons_zero, List.set_cons_succ]
            refine own_skip 15 (some 28) rfl rfl (by kernel_rfl) (fun _ _ _ h => h) rfl (by assumption) ?_
            try simp only [Act.put, List.setIfInBounds_toArray, List.set_cons_zero, List.set_cons_succ]
            refine own_skip 16 (some 29) rfl rfl (by kernel_rfl) (fun _ _ _ h => h) rfl (by assumption) ?_
            try simp only [Act.put, List.setIfInBounds_toArray, List.set_cons_zero, List.set_cons_succ]
            refine own_skip 17 (some 30) rfl rfl (by kernel_rfl) (fun _ _ _ h => h) rfl (by assumption) ?_
            try simp only [Act.put, List.setIfInBounds_toArray, List.set_cons_zero, List.set_cons_succ]
            refine own_skip 18 (some 31) rfl rfl (by kernel_rfl) (fun _ _ _ h => h) rfl (by assumption) ?_
            try simp only [Act.put, List.setIfInBounds_toArray, List.set_cons_zero, List.set_cons_succ]
            refine own_skip 19 (some 32) rfl rfl (by kernel_rfl) (fun _ _ _ h => h) rfl (by assumption) ?_
            try simp only [Act.put, List.setIfInBounds_toArray, List.set_cons_zero, List.set_cons_succ]
            refine own_skip 20 (some 33) rfl rfl (by kernel_rfl) (fun _ _ _ h => h) rfl (by assumption) ?_
            try simp only [Act.put, List.setIfInBounds_toArray, List.set_cons_zero, List.set_cons_succ]
            refine own_skip 21 (some 34) rfl rfl (by kernel_rfl) (fun _ _ _ h => h) rfl (by assumption) ?_
            try simp only [Act.put, List.setIfInBounds_toArray, List.set_cons_zero, List.set_cons_succ]
            refine own_skip 22 (some 35) rfl rfl (by kernel_rfl) (fun _ _ _ h => h) rfl (by assumption) ?_
            try simp only [Act.put, List.setIfInBounds_toArray, List.set_cons_zero, List.set_cons_succ]
            refine own_skip 23 (some 36) rfl rfl (by kernel_rfl) (fun _ _ _ h => h) rfl (by assumption) ?_
            try simp only [Act.put, List.setIfInBounds_toArray, List.set_cons_zero, List.set_cons_succ]
            refine own_skip 24 (some 37) rfl rfl (by kernel_rfl) (fun _ _ _ h => h) rfl (by assumption) ?_
            try simp only [Act.put, List.setIfInBounds_toArray, List.set_cons_zero, List.set_cons_succ]
            refine own_take (v := ?v273) 25 (some 38) rfl rfl (by kernel_rfl) (fun _ _ _ h => h) rfl (by assumption) ?o273 ?_
            case o273 => (intro w hSw; (try dsimp only at hSw); go_simp; try (with_reducible rfl))
            try simp only [Act.put, List.setIfInBounds_toArray, List.set_cons_zero, List.set_cons_succ]
            refine own_take (v := ?v274) 26 (some 39) rfl rfl (by kernel_rfl) (fun _ _ _ h => h) rfl (by assumption) ?o274 ?_
            case o274 => (intro w hSw; (try dsimp only at hSw); go_simp; try (with_reducible rfl))
            try simp only [Act.put, List.setIfInBounds_toArray, List.set_cons_zero, List.set_cons_succ]
            refine own_skip 27 (some 40) rfl rfl (by kernel_rfl) (fun _ _ _ h => h) rfl (by assumption) ?_
            try simp only [Act.put, List.setIfInBounds_toArray, List.set_cons_zero, List.set_cons_succ]
            refine own_skip 28 (some 41) rfl rfl (by kernel_rfl) (fun _ _ _ h => h) rfl (by assumption) ?_
            try simp only [Act.put, List.setIfInBounds_toArray, List.set_cons_zero, List.set_cons_succ]
            refine own_skip 29 (some 42) rfl rfl (by kernel_rfl) (fun _ _ _ h => h) rfl (by assumption) ?_
            try simp only [Act.put, List.setIfInBounds_toArray, List.set_cons_zero, List.set_cons_succ]
            refine own_skip 30 (some 43) rfl rfl (by kernel_rfl) (fun _ _ _ h => h) rfl (by assumption) ?_
            try simp only [Act.put, List.setIfInBounds_toArray, List.set_cons_zero, List.set_cons_succ]
            refine own_skip 31 (some 44) rfl rfl (by kernel_rfl) (fun _ _ _ h => h) rfl (by assumption) ?_
            try simp only [Act.put, List.setIfInBounds_toArray, List.set_cons_zero, List.set_cons_succ]
            refine own_take (v := ?v280) 32 (some 45) rfl rfl (by kernel_rfl) (fun _ _ _ h => h) rfl (by assumption) ?o280 ?_
            case o280 => (intro w hSw; (try dsimp only at hSw); go_simp; try (with_reducible rfl))
            try simp only [Act.put, List.setIfInBounds_toArray, List.set_cons_zero, List.set_cons_succ]
            refine own_take (v := ?v281) 33 (some 46) rfl rfl (by kernel_rfl) (fun _ _ _ h => h) rfl (by assumption) ?o281 ?_
            case o281 => (intro w hSw; (try dsimp only at hSw); go_simp; try (with_reducible rfl))
            try simp only [Act.put, List.setIfInBounds_toArray, List.set_cons_zero, List.set_cons_succ]
            refine own_skip 34 (some 47) rfl rfl (by kernel_rfl) (fun _ _ _ h => h) rfl (by assumption) ?_
            try simp only [Act.put, List.setIfInBounds_toArray, List.set_cons_zero, List.set_cons_succ]
            refine own_skip 35 (some 48) rfl rfl (by kernel_rfl) (fun _ _ _ h => h) rfl (by assumption) ?_
            try simp only [Act.put, List.setIfInBounds_toArray, List.set_cons_zero, List.set_cons_succ]
            refine own_skip 36 (some 49) rfl rfl (by kernel_rfl) (fun _ _ _ h => h) rfl (by assumption) ?_
            try simp only [Act.put, List.setIfInBounds_toArray, List.set_cons_zero, List.set_cons_succ]
            refine own_skip 37 (some 50) rfl rfl (by kernel_rfl) (fun _ _ _ h => h) rfl (by assumption) ?_
            try simp only [Act.put, List.setIfInBounds_toArray, List.set_cons_zero, List.set_cons_succ]
            refine own_skip 38 (some 51) rfl rfl (by kernel_rfl) (fun _ _ _ h => h) rfl (by assumption) ?_
            try simp only [Act.put, List.setIfInBounds_toArray, List.set_cons_zero, List.set_cons_succ]
            refine own_take (v := ?v287) 39 (some 52) rfl rfl (by kernel_rfl) (fun _ _ _ h => h) rfl (by assumption) ?o287 ?_
            case o287 => (intro w hSw; (try dsimp only at hSw); go_simp; try (with_reducible rfl))
            try simp only [Act.put, List.setIfInBounds_toArray, List.set_cons_zero, List.set_cons_succ]
            refine wpAnyH_done (by kernel_rfl) ?_ _
            go_wp2_with fail
            go_ret
            exact ⟨by rw [HT.out]; rfl, below_call hB0 hB0.size (below_call HB9.out HB9.out.size (by go_split_ands; assumption))⟩
          have q1 : decide (g.nextRel ≤ x.id) = false := decide_eq_false (by omega)
          have q2 : decide (x.id < g.nextRel) = true := decide_eq_true hid
          by_cases hpd : pid < x.id
          case neg =>
            have q3 : decide (x.id ≤ pid) = true := decide_eq_true (by omega)
            have q4 : decide (pid < x.id) = false := decide_eq_false hpd
            have HT := Lib.hid (show r = false by rw [← HR.out]; exact range_not (by rw [HX.out, q2, q4]; simp) hlt)
            have hw' := hw.out
            have hw2 := hw2_.out
            refine wp_region_held_drew (S := (fun w' => w'.cell? ⟨wr.heap.size, 0, none⟩ = some (.int .i64 x.id) ∧ w'.cell? ⟨wr.heap.size, 1, none⟩ = some (.int .i64 x.src) ∧ w'.cell? ⟨wr.heap.size, 2, none⟩ = some (.int .i64 x.dst) ∧ w'.cell? ⟨wr.heap.size, 3, none⟩ = some (.string x.type) ∧ w'.cell? ⟨wr.heap.size, 4, none⟩ = some (.slice X2 x.props.length e2) ∧ w'.cell? ⟨w.heap.size, 0, none⟩ = some (.slice A1 g.nodes.length c1) ∧ w'.cell? ⟨w.heap.size, 1, none⟩ = some (.slice (some ⟨b, off, none⟩) g.rels.length c2) ∧ w'.cell? ⟨w.heap.size, 2, none⟩ = some (.int .i64 g.nextNode) ∧ w'.cell? ⟨w.heap.size, 3, none⟩ = some (.int .i64 g.nextRel) ∧ w'.cell? ⟨b, off + m * 5, none⟩ = some (.int .i64 pid) ∧ Below W1.heap.size W1 w')) (by kernel_rfl) ?o288 (fun hH0 => ?_)
            case o288 => ((try dsimp only); first | done | (first | (exact KS.out _ (Below.refl _ _)) | (exact KS.out _ (below_drewN (Below.refl _ _) 1)) | (go_split_ands; refine KS.out _ ?_; assumption)))
            refine own_take (v := ?v289) 0 (some 13) rfl rfl (by kernel_rfl) (fun _ _ _ h => h) rfl (by assumption) ?o289 ?_
            case o289 => (intro w hSw; (try dsimp only at hSw); go_simp; try (with_reducible rfl))
            try simp only [Act.put, List.setIfInBounds_toArray, List.set_cons_zero, List.set_cons_succ]
            refine own_step 1 (by kernel_rfl) rfl (fun K hK => ?_)
            go_simp
            (first | (go_at_call 237; refine (HC.out _ ?_).mono ?_; (go_split_ands; assumption); rintro e w1 ⟨rfl, hb1⟩) | (go_at_call 238; with_reducible refine (HHS.out _ ?_).mono ?_; (go_split_ands; assumption); rintro e w1 ⟨rfl, hb1⟩) | (go_at_call 238; with_reducible refine (HHD.out _ ?_).mono ?_; (go_split_ands; assumption); rintro e w1 ⟨rfl, hb1⟩))
            go_wp2_with fail
            refine hK.out _ _ ?o290 (fun hH1 => ?_)
            case o290 => ((try dsimp only); first | done | (first | (exact KS.out _ (Below.refl _ _)) | (exact KS.out _ (below_drewN (Below.refl _ _) 1)) | (go_split_ands; refine KS.out _ ?_; assumption)))
            clear hK K hH0
            try simp only [Act.put, List.setIfInBounds_toArray, List.set_cons_zero, List.set_cons_succ]
            refine own_take (v := ?v291) 2 (some 15) rfl rfl (by kernel_rfl) (fun _ _ _ h => h) rfl (by assumption) ?o291 ?_
            case o291 => (intro w hSw; (try dsimp only at hSw); go_simp; try (with_reducible rfl))
            try simp only [Act.put, List.setIfInBounds_toArray, List.set_cons_zero, List.set_cons_succ]
            refine own_take (v := ?v292) 3 (some 16) rfl rfl (by kernel_rfl) (fun _ _ _ h => h) rfl (by assumption) ?o292 ?_
            case o292 => (intro w hSw; (try dsimp only at hSw); go_simp; try (with_reducible rfl))
            try simp only [Act.put, List.setIfInBounds_toArray, List.set_cons_zero, List.set_cons_succ]
            refine own_take (v := ?v293) 4 (some 17) rfl rfl (by kernel_rfl) (fun _ _ _ h => h) rfl (by assumption) ?o293 ?_
            case o293 => (intro w hSw; (try dsimp only at hSw); go_simp; try (with_reducible rfl))
            try simp only [Act.put, List.setIfInBounds_toArray, List.set_cons_zero, List.set_cons_succ]
            refine own_take (v := ?v294) 5 (some 18) rfl rfl (by kernel_rfl) (fun _ _ _ h => h) rfl (by assumption) ?o294 ?_
            case o294 => (intro w hSw; (try dsimp only at hSw); go_simp; try (with_reducible rfl))
            try simp only [Act.put, List.setIfInBounds_toArray, List.set_cons_zero, List.set_cons_succ]
            refine own_take (v := ?v295) 6 (some 19) rfl rfl (by kernel_rfl) (fun _ _ _ h => h) rfl (by assumption) ?o295 ?_
            case o295 => (intro w hSw; (try dsimp only at hSw); go_simp; try (with_reducible rfl))
            try simp only [Act.put, List.setIfInBounds_toArray, List.set_cons_zero, List.set_cons_succ]
            refine own_take (v := ?v296) 7 (some 20) rfl rfl (by kernel_rfl) (fun _ _ _ h => h) rfl (by assumption) ?o296 ?_
            case o296 => (intro w hSw; (try dsimp only at hSw); go_simp; try (with_reducible rfl))
            try simp only [Act.put, List.setIfInBounds_toArray, List.set_cons_zero, List.set_cons_succ]
            refine own_take (v := ?v297) 8 (some 21) rfl rfl (by kernel_rfl) (fun _ _ _ h => h) rfl (by assumption) ?o297 ?_
            case o297 => (intro w hSw; (try dsimp only at hSw); go_simp; try (with_reducible rfl))
            try simp only [Act.put, List.setIfInBounds_toArray, List.set_cons_zero, List.set_cons_succ]
            refine own_take (v := ?v298) 9 (some 22) rfl rfl (by kernel_rfl) (fun _ _ _ h => h) rfl (by assumption) ?o298 ?_
            case o298 => (intro w hSw; (try dsimp only at hSw); go_simp; try (with_reducible rfl))
            try simp only [Act.put, List.setIfInBounds_toArray, List.set_cons_zero, List.set_cons_succ]
            refine own_take (v := ?v299) 10 (some 23) rfl rfl (by kernel_rfl) (fun _ _ _ h => h) rfl (by assumption) ?o299 ?_
            case o299 => (intro w hSw; (try dsimp only at hSw); go_simp; try (with_reducible rfl))
            try simp only [Act.put, List.setIfInBounds_toArray, List.set_cons_zero, List.set_cons_succ]
            refine own_take (v := ?v300) 11 (some 24) rfl rfl (by kernel_rfl) (fun _ _ _ h => h) rfl (by assumption) ?o300 ?_
            case o300 => (intro w hSw; (try dsimp only at hSw); go_simp; try (with_reducible rfl))
            try simp only [Act.put, List.setIfInBounds_toArray, List.set_cons_zero, List.set_cons_succ]
            refine own_take (v := ?v301) 12 (some 25) rfl rfl (by kernel_rfl) (fun _ _ _ h => h) rfl (by assumption) ?o301 ?_
            case o301 => (intro w hSw; (try dsimp only at hSw); go_simp; try (with_reducible rfl))
            try simp only [Act.put, List.setIfInBounds_toArray, List.set_cons_zero, List.set_cons_succ]
            refine own_take (v := ?v302) 13 (some 26) rfl rfl (by kernel_rfl) (fun _ _ _ h => h) rfl (by assumption) ?o302 ?_
            case o302 => (intro w hSw; (try dsimp only at hSw); go_simp; try (with_reducible rfl))
            try simp only [Act.put, List.setIfInBounds_toArray, List.set_cons_zero, List.set_cons_succ]
            refine own_take (v := ?v303) 14 (some 27) rfl rfl (by kernel_rfl) (fun _ _ _ h => h) rfl (by assumption) ?o303 ?_
            case o303 => (intro w hSw; (try dsimp only at hSw); go_simp; try (with_reducible rfl))
            try simp only [Act.put, List.setIfInBounds_toArray, List.set_cons_zero, List.set_cons_succ]
            refine own_take (v := ?v304) 15 (some 28) rfl rfl (by kernel_rfl) (fun _ _ _ h => h) rfl (by assumption) ?o304 ?_
            case o304 => (intro w hSw; (try dsimp only at hSw); go_simp; try (with_reducible rfl))
            try simp only [Act.put, List.setIfInBounds_toArray, List.set_cons_zero, List.set_cons_succ]
            refine own_take (v := ?v305) 16 (some 29) rfl rfl (by kernel_rfl) (fun _ _ _ h => h) rfl (by assumption) ?o305 ?_
            case o305 => (intro w hSw; (try dsimp only at hSw); go_simp; try (with_reducible rfl))
            try simp only [Act.put, List.setIfInBounds_toArray, List.set_cons_zero, List.set_cons_succ]
            refine own_take (v := ?v306) 17 (some 30) rfl rfl (by kernel_rfl) (fun _ _ _ h => h) rfl (by assumption) ?o306 ?_
            case o306 => (intro w hSw; (try dsimp only at hSw); go_simp; try (with_reducible rfl))
            try simp only [Act.put, List.setIfInBounds_toArray, List.set_cons_zero, List.set_cons_succ]
            refine own_take (v := ?v307) 18 (some 31) rfl rfl (by kernel_rfl) (fun _ _ _ h => h) rfl (by assumption) ?o307 ?_
            case o307 => (intro w hSw; (try dsimp only at hSw); go_simp; try (with_reducible rfl))
            try simp only [Act.put, List.setIfInBounds_toArray, List.set_cons_zero, List.set_cons_succ]
            refine own_take (v := ?v308) 19 (some 32) rfl rfl (by kernel_rfl) (fun _ _ _ h => h) rfl (by assumption) ?o308 ?_
            case o308 => (intro w hSw; (try dsimp only at hSw); go_simp; try (with_reducible rfl))
            try simp only [Act.put, List.setIfInBounds_toArray, List.set_cons_zero, List.set_cons_succ]
            refine own_take (v := ?v309) 20 (some 33) rfl rfl (by kernel_rfl) (fun _ _ _ h => h) rfl (by assumption) ?o309 ?_
            case o309 => (intro w hSw; (try dsimp only at hSw); go_simp; try (with_reducible rfl))
            try simp only [Act.put, List.setIfInBounds_toArray, List.set_cons_zero, List.set_cons_succ]
            refine own_take (v := ?v310) 21 (some 34) rfl rfl (by kernel_rfl) (fun _ _ _ h => h) rfl (by assumption) ?o310 ?_
            case o310 => (intro w hSw; (try dsimp only at hSw); go_simp; try (with_reducible rfl))
            try simp only [Act.put, List.setIfInBounds_toArray, List.set_cons_zero, List.set_cons_succ]
            refine own_take (v := ?v311) 22 (some 35) rfl rfl (by kernel_rfl) (fun _ _ _ h => h) rfl (by assumption) ?o311 ?_
            case o311 => (intro w hSw; (try dsimp only at hSw); go_simp; try (with_reducible rfl))
            try simp only [Act.put, List.setIfInBounds_toArray, List.set_cons_zero, List.set_cons_succ]
            refine own_take (v := ?v312) 23 (some 36) rfl rfl (by kernel_rfl) (fun _ _ _ h => h) rfl (by assumption) ?o312 ?_
            case o312 => (intro w hSw; (try dsimp only at hSw); go_simp; try (with_reducible rfl))
            try simp only [Act.put, List.setIfInBounds_toArray, List.set_cons_zero, List.set_cons_succ]
            refine own_take (v := ?v313) 24 (some 37) rfl rfl (by kernel_rfl) (fun _ _ _ h => h) rfl (by assumption) ?o313 ?_
            case o313 => (intro w hSw; (try dsimp only at hSw); go_simp; try (with_reducible rfl))
            try simp only [Act.put, List.setIfInBounds_toArray, List.set_cons_zero, List.set_cons_succ]
            refine own_take (v := ?v314) 25 (some 38) rfl rfl (by kernel_rfl) (fun _ _ _ h => h) rfl (by assumption) ?o314 ?_
            case o314 => (intro w hSw; (try dsimp only at hSw); go_simp; try (with_reducible rfl))
            try simp only [Act.put, List.setIfInBounds_toArray, List.set_cons_zero, List.set_cons_succ]
            refine own_take (v := ?v315) 26 (some 39) rfl rfl (by kernel_rfl) (fun _ _ _ h => h) rfl (by assumption) ?o315 ?_
            case o315 => (intro w hSw; (try dsimp only at hSw); go_simp; try (with_reducible rfl))
            try simp only [Act.put, List.setIfInBounds_toArray, List.set_cons_zero, List.set_cons_succ]
            refine own_skip 27 (some 40) rfl rfl (by kernel_rfl) (fun _ _ _ h => h) rfl (by assumption) ?_
            try simp only [Act.put, List.setIfInBounds_toArray, List.set_cons_zero, List.set_cons_succ]
            refine own_skip 28 (some 41) rfl rfl (by kernel_rfl) (fun _ _ _ h => h) rfl (by assumption) ?_
            try simp only [Act.put, List.setIfInBounds_toArray, List.set_cons_zero, List.set_cons_succ]
            refine own_skip 29 (some 42) rfl rfl (by kernel_rfl) (fun _ _ _ h => h) rfl (by assumption) ?_
            try simp only [Act.put, List.setIfInBounds_toArray, List.set_cons_zero, List.set_cons_succ]
            refine own_skip 30 (some 43) rfl rfl (by kernel_rfl) (fun _ _ _ h => h) rfl (by assumption) ?_
            try simp only [Act.put, List.setIfInBounds_toArray, List.set_cons_zero, List.set_cons_succ]
            refine own_skip 31 (some 44) rfl rfl (by kernel_rfl) (fun _ _ _ h => h) rfl (by assumption) ?_
            try simp only [Act.put, List.setIfInBounds_toArray, List.set_cons_zero, List.set_cons_succ]
            refine own_take (v := ?v321) 32 (some 45) rfl rfl (by kernel_rfl) (fun _ _ _ h => h) rfl (by assumption) ?o321 ?_
            case o321 => (intro w hSw; (try dsimp only at hSw); go_simp; try (with_reducible rfl))
            try simp only [Act.put, List.setIfInBounds_toArray, List.set_cons_zero, List.set_cons_succ]
            refine own_take (v := ?v322) 33 (some 46) rfl rfl (by kernel_rfl) (fun _ _ _ h => h) rfl (by assumption) ?o322 ?_
            case o322 => (intro w hSw; (try dsimp only at hSw); go_simp; try (with_reducible rfl))
            try simp only [Act.put, List.setIfInBounds_toArray, List.set_cons_zero, List.set_cons_succ]
            refine own_skip 34 (some 47) rfl rfl (by kernel_rfl) (fun _ _ _ h => h) rfl (by assumption) ?_
            try simp only [Act.put, List.setIfInBounds_toArray, List.set_cons_zero, List.set_cons_succ]
            refine own_skip 35 (some 48) rfl rfl (by kernel_rfl) (fun _ _ _ h => h) rfl (by assumption) ?_
            try simp only [Act.put, List.setIfInBounds_toArray, List.set_cons_zero, List.set_cons_succ]
            refine own_skip 36 (some 49) rfl rfl (by kernel_rfl) (fun _ _ _ h => h) rfl (by assumption) ?_
            try simp only [Act.put, List.setIfInBounds_toArray, List.set_cons_zero, List.set_cons_succ]
            refine own_skip 37 (some 50) rfl rfl (by kernel_rfl) (fun _ _ _ h => h) rfl (by assumption) ?_
            try simp only [Act.put, List.setIfInBounds_toArray, List.set_cons_zero, List.set_cons_succ]
            refine own_skip 38 (some 51) rfl rfl (by kernel_rfl) (fun _ _ _ h => h) rfl (by assumption) ?_
            try simp only [Act.put, List.setIfInBounds_toArray, List.set_cons_zero, List.set_cons_succ]
            refine own_take (v := ?v328) 39 (some 52) rfl rfl (by kernel_rfl) (fun _ _ _ h => h) rfl (by assumption) ?o328 ?_
            case o328 => (intro w hSw; (try dsimp only at hSw); go_simp; try (with_reducible rfl))
            try simp only [Act.put, List.setIfInBounds_toArray, List.set_cons_zero, List.set_cons_succ]
            refine wpAnyH_done (by kernel_rfl) ?_ _
            go_wp2_with fail
            go_ret
            exact ⟨by rw [HT.out]; rfl, below_call hB0 hB0.size (below_call HB9.out HB9.out.size (by go_split_ands; assumption))⟩
          have q3 : decide (x.id ≤ pid) = false := decide_eq_false (by omega)
          have q4 : decide (pid < x.id) = true := decide_eq_true hpd
          cases hs with
          | false =>
            have HT := Lib.hid (show r = false by rw [← HR.out]; exact range_not (by rw [HX.out, q2, q4]; simp) hlt)
            have hw' := hw.out
            have hw2 := hw2_.out
            refine wp_region_held_drew (S := (fun w' => w'.cell? ⟨wr.heap.size, 0, none⟩ = some (.int .i64 x.id) ∧ w'.cell? ⟨wr.heap.size, 1, none⟩ = some (.int .i64 x.src) ∧ w'.cell? ⟨wr.heap.size, 2, none⟩ = some (.int .i64 x.dst) ∧ w'.cell? ⟨wr.heap.size, 3, none⟩ = some (.string x.type) ∧ w'.cell? ⟨wr.heap.size, 4, none⟩ = some (.slice X2 x.props.length e2) ∧ w'.cell? ⟨w.heap.size, 0, none⟩ = some (.slice A1 g.nodes.length c1) ∧ w'.cell? ⟨w.heap.size, 1, none⟩ = some (.slice (some ⟨b, off, none⟩) g.rels.length c2) ∧ w'.cell? ⟨w.heap.size, 2, none⟩ = some (.int .i64 g.nextNode) ∧ w'.cell? ⟨w.heap.size, 3, none⟩ = some (.int .i64 g.nextRel) ∧ w'.cell? ⟨b, off + m * 5, none⟩ = some (.int .i64 pid) ∧ Below W1.heap.size W1 w')) (by kernel_rfl) ?o329 (fun hH0 => ?_)
            case o329 => ((try dsimp only); first | done | (first | (exact KS.out _ (Below.refl _ _)) | (exact KS.out _ (below_drewN (Below.refl _ _) 1)) | (go_split_ands; refine KS.out _ ?_; assumption)))
            refine own_take (v := ?v330) 0 (some 13) rfl rfl (by kernel_rfl) (fun _ _ _ h => h) rfl (by assumption) ?o330 ?_
            case o330 => (intro w hSw; (try dsimp only at hSw); go_simp; try (with_reducible rfl))
            try simp only [Act.put, List.setIfInBounds_toArray, List.set_cons_zero, List.set_cons_succ]
            refine own_step 1 (by kernel_rfl) rfl (fun K hK => ?_)
            go_simp
            (first | (go_at_call 237; refine (HC.out _ ?_).mono ?_; (go_split_ands; assumption); rintro e w1 ⟨rfl, hb1⟩) | (go_at_call 238; with_reducible refine (HHS.out _ ?_).mono ?_; (go_split_ands; assumption); rintro e w1 ⟨rfl, hb1⟩) | (go_at_call 238; with_reducible refine (HHD.out _ ?_).mono ?_; (go_split_ands; assumption); rintro e w1 ⟨rfl, hb1⟩))
            go_wp2_with fail
            refine hK.out _ _ ?o331 (fun hH1 => ?_)
            case o331 => ((try dsimp only); first | done | (first | (exact KS.out _ (Below.refl _ _)) | (exact KS.out _ (below_drewN (Below.refl _ _) 1)) | (go_split_ands; refine KS.out _ ?_; assumption)))
            clear hK K hH0
            try simp only [Act.put, List.setIfInBounds_toArray, List.set_cons_zero, List.set_cons_succ]
            refine own_take (v := ?v332) 2 (some 15) rfl rfl (by kernel_rfl) (fun _ _ _ h => h) rfl (by assumption) ?o332 ?_
            case o332 => (intro w hSw; (try dsimp only at hSw); go_simp; try (with_reducible rfl))
            try simp only [Act.put, List.setIfInBounds_toArray, List.set_cons_zero, List.set_cons_succ]
            refine own_take (v := ?v333) 3 (some 16) rfl rfl (by kernel_rfl) (fun _ _ _ h => h) rfl (by assumption) ?o333 ?_
            case o333 => (intro w hSw; (try dsimp only at hSw); go_simp; try (with_reducible rfl))
            try simp only [Act.put, List.setIfInBounds_toArray, List.set_cons_zero, List.set_cons_succ]
            refine own_take (v := ?v334) 4 (some 17) rfl rfl (by kernel_rfl) (fun _ _ _ h => h) rfl (by assumption) ?o334 ?_
            case o334 => (intro w hSw; (try dsimp only at hSw); go_simp; try (with_reducible rfl))
            try simp only [Act.put, List.setIfInBounds_toArray, List.set_cons_zero, List.set_cons_succ]
            refine own_take (v := ?v335) 5 (some 18) rfl rfl (by kernel_rfl) (fun _ _ _ h => h) rfl (by assumption) ?o335 ?_
            case o335 => (intro w hSw; (try dsimp only at hSw); go_simp; try (with_reducible rfl))
            try simp only [Act.put, List.setIfInBounds_toArray, List.set_cons_zero, List.set_cons_succ]
            refine own_take (v := ?v336) 6 (some 19) rfl rfl (by kernel_rfl) (fun _ _ _ h => h) rfl (by assumption) ?o336 ?_
            case o336 => (intro w hSw; (try dsimp only at hSw); go_simp; try (with_reducible rfl))
            try simp only [Act.put, List.setIfInBounds_toArray, List.set_cons_zero, List.set_cons_succ]
            refine own_take (v := ?v337) 7 (some 20) rfl rfl (by kernel_rfl) (fun _ _ _ h => h) rfl (by assumption) ?o337 ?_
            case o337 => (intro w hSw; (try dsimp only at hSw); go_simp; try (with_reducible rfl))
            try simp only [Act.put, List.setIfInBounds_toArray, List.set_cons_zero, List.set_cons_succ]
            refine own_take (v := ?v338) 8 (some 21) rfl rfl (by kernel_rfl) (fun _ _ _ h => h) rfl (by assumption) ?o338 ?_
            case o338 => (intro w hSw; (try dsimp only at hSw); go_simp; try (with_reducible rfl))
            try simp only [Act.put, List.setIfInBounds_toArray, List.set_cons_zero, List.set_cons_succ]
            refine own_take (v := ?v339) 9 (some 22) rfl rfl (by kernel_rfl) (fun _ _ _ h => h) rfl (by assumption) ?o339 ?_
            case o339 => (intro w hSw; (try dsimp only at hSw); go_simp; try (with_reducible rfl))
            try simp only [Act.put, List.setIfInBounds_toArray, List.set_cons_zero, List.set_cons_succ]
            refine own_take (v := ?v340) 10 (some 23) rfl rfl (by kernel_rfl) (fun _ _ _ h => h) rfl (by assumption) ?o340 ?_
            case o340 => (intro w hSw; (try dsimp only at hSw); go_simp; try (with_reducible rfl))
            try simp only [Act.put, List.setIfInBounds_toArray, List.set_cons_zero, List.set_cons_succ]
            refine own_take (v := ?v341) 11 (some 24) rfl rfl (by kernel_rfl) (fun _ _ _ h => h) rfl (by assumption) ?o341 ?_
            case o341 => (intro w hSw; (try dsimp only at hSw); go_simp; try (with_reducible rfl))
            try simp only [Act.put, List.setIfInBounds_toArray, List.set_cons_zero, List.set_cons_succ]
            refine own_take (v := ?v342) 12 (some 25) rfl rfl (by kernel_rfl) (fun _ _ _ h => h) rfl (by assumption) ?o342 ?_
            case o342 => (intro w hSw; (try dsimp only at hSw); go_simp; try (with_reducible rfl))
            try simp only [Act.put, List.setIfInBounds_toArray, List.set_cons_zero, List.set_cons_succ]
            refine own_take (v := ?v343) 13 (some 26) rfl rfl (by kernel_rfl) (fun _ _ _ h => h) rfl (by assumption) ?o343 ?_
            case o343 => (intro w hSw; (try dsimp only at hSw); go_simp; try (with_reducible rfl))
            try simp only [Act.put, List.setIfInBounds_toArray, List.set_cons_zero, List.set_cons_succ]
            refine own_take (v := ?v344) 14 (some 27) rfl rfl (by kernel_rfl) (fun _ _ _ h => h) rfl (by assumption) ?o344 ?_
            case o344 => (intro w hSw; (try dsimp only at hSw); go_simp; try (with_reducible rfl))
            try simp only [Act.put, List.setIfInBounds_toArray, List.set_cons_zero, List.set_cons_succ]
            refine own_take (v := ?v345) 15 (some 28) rfl rfl (by kernel_rfl) (fun _ _ _ h => h) rfl (by assumption) ?o345 ?_
            case o345 => (intro w hSw; (try dsimp only at hSw); go_simp; try (with_reducible rfl))
            try simp only [Act.put, List.setIfInBounds_toArray, List.set_cons_zero, List.set_cons_succ]
            refine own_take (v := ?v346) 16 (some 29) rfl rfl (by kernel_rfl) (fun _ _ _ h => h) rfl (by assumption) ?o346 ?_
            case o346 => (intro w hSw; (try dsimp only at hSw); go_simp; try (with_reducible rfl))
            try simp only [Act.put, List.setIfInBounds_toArray, List.set_cons_zero, List.set_cons_succ]
            refine own_take (v := ?v347) 17 (some 30) rfl rfl (by kernel_rfl) (fun _ _ _ h => h) rfl (by assumption) ?o347 ?_
            case o347 => (intro w hSw; (try dsimp only at hSw); go_simp; try (with_reducible rfl))
            try simp only [Act.put, List.setIfInBounds_toArray, List.set_cons_zero, List.set_cons_succ]
            refine own_take (v := ?v348) 18 (some 31) rfl rfl (by kernel_rfl) (fun _ _ _ h => h) rfl (by assumption) ?o348 ?_
            case o348 => (intro w hSw; (try dsimp only at hSw); go_simp; try (with_reducible rfl))
            try simp only [Act.put, List.setIfInBounds_toArray, List.set_cons_zero, List.set_cons_succ]
            refine own_take (v := ?v349) 19 (some 32) rfl rfl (by kernel_rfl) (fun _ _ _ h => h) rfl (by assumption) ?o349 ?_
            case o349 => (intro w hSw; (try dsimp only at hSw); go_simp; try (with_reducible rfl))
            try simp only [Act.put, List.setIfInBounds_toArray, List.set_cons_zero, List.set_cons_succ]
            refine own_take (v := ?v350) 20 (some 33) rfl rfl (by kernel_rfl) (fun _ _ _ h => h) rfl (by assumption) ?o350 ?_
            case o350 => (intro w hSw; (try dsimp only at hSw); go_simp; try (with_reducible rfl))
            try simp only [Act.put, List.setIfInBounds_toArray, List.set_cons_zero, List.set_cons_succ]
            refine own_take (v := ?v351) 21 (some 34) rfl rfl (by kernel_rfl) (fun _ _ _ h => h) rfl (by assumption) ?o351 ?_
            case o351 => (intro w hSw; (try dsimp only at hSw); go_simp; try (with_reducible rfl))
            try simp only [Act.put, List.setIfInBounds_toArray, List.set_cons_zero, List.set_cons_succ]
            refine own_take (v := ?v352) 22 (some 35) rfl rfl (by kernel_rfl) (fun _ _ _ h => h) rfl (by assumption) ?o352 ?_
            case o352 => (intro w hSw; (try dsimp only at hSw); go_simp; try (with_reducible rfl))
            try simp only [Act.put, List.setIfInBounds_toArray, List.set_cons_zero, List.set_cons_succ]
            refine own_take (v := ?v353) 23 (some 36) rfl rfl (by kernel_rfl) (fun _ _ _ h => h) rfl (by assumption) ?o353 ?_
            case o353 => (intro w hSw; (try dsimp only at hSw); go_simp; try (with_reducible rfl))
            try simp only [Act.put, List.setIfInBounds_toArray, List.set_cons_zero, List.set_cons_succ]
            refine own_take (v := ?v354) 24 (some 37) rfl rfl (by kernel_rfl) (fun _ _ _ h => h) rfl (by assumption) ?o354 ?_
            case o354 => (intro w hSw; (try dsimp only at hSw); go_simp; try (with_reducible rfl))
            try simp only [Act.put, List.setIfInBounds_toArray, List.set_cons_zero, List.set_cons_succ]
            refine own_take (v := ?v355) 25 (some 38) rfl rfl (by kernel_rfl) (fun _ _ _ h => h) rfl (by assumption) ?o355 ?_
            case o355 => (intro w hSw; (try dsimp only at hSw); go_simp; try (with_reducible rfl))
            try simp only [Act.put, List.setIfInBounds_toArray, List.set_cons_zero, List.set_cons_succ]
            refine own_take (v := ?v356) 26 (some 39) rfl rfl (by kernel_rfl) (fun _ _ _ h => h) rfl (by assumption) ?o356 ?_
            case o356 => (intro w hSw; (try dsimp only at hSw); go_simp; try (with_reducible rfl))
            try simp only [Act.put, List.setIfInBounds_toArray, List.set_cons_zero, List.set_cons_succ]
            refine own_take (v := ?v357) 27 (some 40) rfl rfl (by kernel_rfl) (fun _ _ _ h => h) rfl (by assumption) ?o357 ?_
            case o357 => (intro w hSw; (try dsimp only at hSw); go_simp; try (with_reducible rfl))
            try simp only [Act.put, List.setIfInBounds_toArray, List.set_cons_zero, List.set_cons_succ]
            refine own_take (v := ?v358) 28 (some 41) rfl rfl (by kernel_rfl) (fun _ _ _ h => h) rfl (by assumption) ?o358 ?_
            case o358 => (intro w hSw; (try dsimp only at hSw); go_simp; try (with_reducible rfl))
            try simp only [Act.put, List.setIfInBounds_toArray, List.set_cons_zero, List.set_cons_succ]
            refine own_take (v := ?v359) 29 (some 42) rfl rfl (by kernel_rfl) (fun _ _ _ h => h) rfl (by assumption) ?o359 ?_
            case o359 => (intro w hSw; (try dsimp only at hSw); go_simp; try (with_reducible rfl))
            try simp only [Act.put, List.setIfInBounds_toArray, List.set_cons_zero, List.set_cons_succ]
            refine own_step 30 (by kernel_rfl) rfl (fun K hK => ?_)
            go_simp
            (first | (go_at_call 237; refine (HC.out _ ?_).mono ?_; (go_split_ands; assumption); rintro e w1 ⟨rfl, hb1⟩) | (go_at_call 238; with_reducible refine (HHS.out _ ?_).mono ?_; (go_split_ands; assumption); rintro e w1 ⟨rfl, hb1⟩) | (go_at_call 238; with_reducible refine (HHD.out _ ?_).mono ?_; (go_split_ands; assumption); rintro e w1 ⟨rfl, hb1⟩))
            go_wp2_with fail
            refine hK.out _ _ ?o360 (fun hH2 => ?_)
            case o360 => ((try dsimp only); first | done | (first | (exact KS.out _ (Below.refl _ _)) | (exact KS.out _ (below_drewN (Below.refl _ _) 1)) | (go_split_ands; refine KS.out _ ?_; assumption)))
            clear hK K hH1
            try simp only [Act.put, List.setIfInBounds_toArray, List.set_cons_zero, List.set_cons_succ]
            refine own_take (v := ?v361) 31 (some 44) rfl rfl (by kernel_rfl) (fun _ _ _ h => h) rfl (by assumption) ?o361 ?_
            case o361 => (intro w hSw; (try dsimp only at hSw); go_simp; try (with_reducible rfl))
            try simp only [Act.put, List.setIfInBounds_toArray, List.set_cons_zero, List.set_cons_succ]
            refine own_take (v := ?v362) 32 (some 45) rfl rfl (by kernel_rfl) (fun _ _ _ h => h) rfl (by assumption) ?o362 ?_
            case o362 => (intro w hSw; (try dsimp only at hSw); go_simp; try (with_reducible rfl))
            try simp only [Act.put, List.setIfInBounds_toArray, List.set_cons_zero, List.set_cons_succ]
            refine own_take (v := ?v363) 33 (some 46) rfl rfl (by kernel_rfl) (fun _ _ _ h => h) rfl (by assumption) ?o363 ?_
            case o363 => (intro w hSw; (try dsimp only at hSw); go_simp; try (with_reducible rfl))
            try simp only [Act.put, List.setIfInBounds_toArray, List.set_cons_zero, List.set_cons_succ]
            refine own_skip 34 (some 47) rfl rfl (by kernel_rfl) (fun _ _ _ h => h) rfl (by assumption) ?_
            try simp only [Act.put, List.setIfInBounds_toArray, List.set_cons_zero, List.set_cons_succ]
            refine own_skip 35 (some 48) rfl rfl (by kernel_rfl) (fun _ _ _ h => h) rfl (by assumption) ?_
            try simp only [Act.put, List.setIfInBounds_toArray, List.set_cons_zero, List.set_cons_succ]
            refine own_skip 36 (some 49) rfl rfl (by kernel_rfl) (fun _ _ _ h => h) rfl (by assumption) ?_
            try simp only [Act.put, List.setIfInBounds_toArray, List.set_cons_zero, List.set_cons_succ]
            refine own_skip 37 (some 50) rfl rfl (by kernel_rfl) (fun _ _ _ h => h) rfl (by assumption) ?_
            try simp only [Act.put, List.setIfInBounds_toArray, List.set_cons_zero, List.set_cons_succ]
            refine own_skip 38 (some 51) rfl rfl (by kernel_rfl) (fun _ _ _ h => h) rfl (by assumption) ?_
            try simp only [Act.put, List.setIfInBounds_toArray, List.set_cons_zero, List.set_cons_succ]
            refine own_take (v := ?v369) 39 (some 52) rfl rfl (by kernel_rfl) (fun _ _ _ h => h) rfl (by assumption) ?o369 ?_
            case o369 => (intro w hSw; (try dsimp only at hSw); go_simp; try (with_reducible rfl))
            try simp only [Act.put, List.setIfInBounds_toArray, List.set_cons_zero, List.set_cons_succ]
            refine wpAnyH_done (by kernel_rfl) ?_ _
            go_wp2_with fail
            go_ret
            exact ⟨by rw [HT.out]; rfl, below_call hB0 hB0.size (below_call HB9.out HB9.out.size (by go_split_ands; assumption))⟩
          | true =>
            cases hd with
            | false =>
              have HT := Lib.hid (show r = false by rw [← HR.out]; exact range_not (by rw [HX.out, q2, q4]; simp) hlt)
              have hw' := hw.out
              have hw2 := hw2_.out
              refine wp_region_held_drew (S := (fun w' => w'.cell? ⟨wr.heap.size, 0, none⟩ = some (.int .i64 x.id) ∧ w'.cell? ⟨wr.heap.size, 1, none⟩ = some (.int .i64 x.src) ∧ w'.cell? ⟨wr.heap.size, 2, none⟩ = some (.int .i64 x.dst) ∧ w'.cell? ⟨wr.heap.size, 3, none⟩ = some (.string x.type) ∧ w'.cell? ⟨wr.heap.size, 4, none⟩ = some (.slice X2 x.props.length e2) ∧ w'.cell? ⟨w.heap.size, 0, none⟩ = some (.slice A1 g.nodes.length c1) ∧ w'.cell? ⟨w.heap.size, 1, none⟩ = some (.slice (some ⟨b, off, none⟩) g.rels.length c2) ∧ w'.cell? ⟨w.heap.size, 2, none⟩ = some (.int .i64 g.nextNode) ∧ w'.cell? ⟨w.heap.size, 3, none⟩ = some (.int .i64 g.nextRel) ∧ w'.cell? ⟨b, off + m * 5, none⟩ = some (.int .i64 pid) ∧ Below W1.heap.size W1 w')) (by kernel_rfl) ?o370 (fun hH0 => ?_)
              case o370 => ((try dsimp only); first | done | (first | (exact KS.out _ (Below.refl _ _)) | (exact KS.out _ (below_drewN (Below.refl _ _) 1)) | (go_split_ands; refine KS.out _ ?_; assumption)))
              refine own_take (v := ?v371) 0 (some 13) rfl rfl (by kernel_rfl) (fun _ _ _ h => h) rfl (by assumption) ?o371 ?_
              case o371 => (intro w hSw; (try dsimp only at hSw); go_simp; try (with_reducible rfl))
              try simp only [Act.put, List.setIfInBounds_toArray, List.set_cons_zero, List.set_cons_succ]
              refine own_step 1 (by kernel_rfl) rfl (fun K hK => ?_)
              go_simp
              (first | (go_at_call 237; refine (HC.out _ ?_).mono ?_; (go_split_ands; assumption); rintro e w1 ⟨rfl, hb1⟩) | (go_at_call 238; with_reducible refine (HHS.out _ ?_).mono ?_; (go_split_ands; assumption); rintro e w1 ⟨rfl, hb1⟩) | (go_at_call 238; with_reducible refine (HHD.out _ ?_).mono ?_; (go_split_ands; assumption); rintro e w1 ⟨rfl, hb1⟩))
              go_wp2_with fail
              refine hK.out _ _ ?o372 (fun hH1 => ?_)
              case o372 => ((try dsimp only); first | done | (first | (exact KS.out _ (Below.refl _ _)) | (exact KS.out _ (below_drewN (Below.refl _ _) 1)) | (go_split_ands; refine KS.out _ ?_; assumption)))
              clear hK K hH0
              try simp only [Act.put, List.setIfInBounds_toArray, List.set_cons_zero, List.set_cons_succ]
              refine own_take (v := ?v373) 2 (some 15) rfl rfl (by kernel_rfl) (fun _ _ _ h => h) rfl (by assumption) ?o373 ?_
              case o373 => (intro w hSw; (try dsimp only at hSw); go_simp; try (with_reducible rfl))
              try simp only [Act.put, List.setIfInBounds_toArray, List.set_cons_zero, List.set_cons_succ]
              refine own_take (v := ?v374) 3 (some 16) rfl rfl (by kernel_rfl) (fun _ _ _ h => h) rfl (by assumption) ?o374 ?_
              case o374 => (intro w hSw; (try dsimp only at hSw); go_simp; try (with_reducible rfl))
              try simp only [Act.put, List.setIfInBounds_toArray, List.set_cons_zero, List.set_cons_succ]
              refine own_take (v := ?v375) 4 (some 17) rfl rfl (by kernel_rfl) (fun _ _ _ h => h) rfl (by assumption) ?o375 ?_
              case o375 => (intro w hSw; (try dsimp only at hSw); go_simp; try (with_reducible rfl))
              try simp only [Act.put, List.setIfInBounds_toArray, List.set_cons_zero, List.set_cons_succ]
              refine own_take (v := ?v376) 5 (some 18) rfl rfl (by kernel_rfl) (fun _ _ _ h => h) rfl (by assumption) ?o376 ?_
              case o376 => (intro w hSw; (try dsimp only at hSw); go_simp; try (with_reducible rfl))
              try simp only [Act.put, List.setIfInBounds_toArray, List.set_cons_zero, List.set_cons_succ]
              refine own_take (v := ?v377) 6 (some 19) rfl rfl (by kernel_rfl) (fun _ _ _ h => h) rfl (by assumption) ?o377 ?_
              case o377 => (intro w hSw; (try dsimp only at hSw); go_simp; try (with_reducible rfl))
              try simp only [Act.put, List.setIfInBounds_toArray, List.set_cons_zero, List.set_cons_succ]
              refine own_take (v := ?v378) 7 (some 20) rfl rfl (by kernel_rfl) (fun _ _ _ h => h) rfl (by assumption) ?o378 ?_
              case o378 => (intro w hSw; (try dsimp only at hSw); go_simp; try (with_reducible rfl))
              try simp only [Act.put, List.setIfInBounds_toArray, List.set_cons_zero, List.set_cons_succ]
              refine own_take (v := ?v379) 8 (some 21) rfl rfl (by kernel_rfl) (fun _ _ _ h => h) rfl (by assumption) ?o379 ?_
              case o379 => (intro w hSw; (try dsimp only at hSw); go_simp; try (with_reducible rfl))
              try simp only [Act.put, List.setIfInBounds_toArray, List.set_cons_zero, List.set_cons_succ]
              refine own_take (v := ?v380) 9 (some 22) rfl rfl (by kernel_rfl) (fun _ _ _ h => h) rfl (by assumption) ?o380 ?_
              case o380 => (intro w hSw; (try dsimp only at hSw); go_simp; try (with_reducible rfl))
              try simp only [Act.put, List.setIfInBounds_toArray, List.set_cons_zero, List.set_cons_succ]
              refine own_take (v := ?v381) 10 (some 23) rfl rfl (by kernel_rfl) (fun _ _ _ h => h) rfl (by assumption) ?o381 ?_
              case o381 => (intro w hSw; (try dsimp only at hSw); go_simp; try (with_reducible rfl))
              try simp only [Act.put, List.setIfInBounds_toArray, List.set_cons_zero, List.set_cons_succ]
              refine own_take (v := ?v382) 11 (some 24) rfl rfl (by kernel_rfl) (fun _ _ _ h => h) rfl (by assumption) ?o382 ?_
              case o382 => (intro w hSw; (try dsimp only at hSw); go_simp; try (with_reducible rfl))
              try simp only [Act.put, List.setIfInBounds_toArray, List.set_cons_zero, List.set_cons_succ]
              refine own_take (v := ?v383) 12 (some 25) rfl rfl (by kernel_rfl) (fun _ _ _ h => h) rfl (by assumption) ?o383 ?_
              case o383 => (intro w hSw; (try dsimp only at hSw); go_simp; try (with_reducible rfl))
              try simp only [Act.put, List.setIfInBounds_toArray, List.set_cons_zero, List.set_cons_succ]
              refine own_take (v := ?v384) 13 (some 26) rfl rfl (by kernel_rfl) (fun _ _ _ h => h) rfl (by assumption) ?o384 ?_
              case o384 => (intro w hSw; (try dsimp only at hSw); go_simp; try (with_reducible rfl))
              try simp only [Act.put, List.setIfInBounds_toArray, List.set_cons_zero, List.set_cons_succ]
              refine own_take (v := ?v385) 14 (some 27) rfl rfl (by kernel_rfl) (fun _ _ _ h => h) rfl (by assumption) ?o385 ?_
              case o385 => (intro w hSw; (try dsimp only at hSw); go_simp; try (with_reducible rfl))
              try simp only [Act.put, List.setIfInBounds_toArray, List.set_cons_zero, List.set_cons_succ]
              refine own_take (v := ?v386) 15 (some 28) rfl rfl (by kernel_rfl) (fun _ _ _ h => h) rfl (by assumption) ?o386 ?_
              case o386 => (intro w hSw; (try dsimp only at hSw); go_simp; try (with_reducible rfl))
              try simp only [Act.put, List.setIfInBounds_toArray, List.set_cons_zero, List.set_cons_succ]
              refine own_take (v := ?v387) 16 (some 29) rfl rfl (by kernel_rfl) (fun _ _ _ h => h) rfl (by assumption) ?o387 ?_
              case o387 => (intro w hSw; (try dsimp only at hSw); go_simp; try (with_reducible rfl))
              try simp only [Act.put, List.setIfInBounds_toArray, List.set_cons_zero, List.set_cons_succ]
              refine own_take (v := ?v388) 17 (some 30) rfl rfl (by kernel_rfl) (fun _ _ _ h => h) rfl (by assumption) ?o388 ?_
              case o388 => (intro w hSw; (try dsimp only at hSw); go_simp; try (with_reducible rfl))
              try simp only [Act.put, List.setIfInBounds_toArray, List.set_cons_zero, List.set_cons_succ]
              refine own_take (v := ?v389) 18 (some 31) rfl rfl (by kernel_rfl) (fun _ _ _ h => h) rfl (by assumption) ?o389 ?_
              case o389 => (intro w hSw; (try dsimp only at hSw); go_simp; try (with_reducible rfl))
              try simp only [Act.put, List.setIfInBounds_toArray, List.set_cons_zero, List.set_cons_succ]
              refine own_take (v := ?v390) 19 (some 32) rfl rfl (by kernel_rfl) (fun _ _ _ h => h) rfl (by assumption) ?o390 ?_
              case o390 => (intro w hSw; (try dsimp only at hSw); go_simp; try (with_reducible rfl))
              try simp only [Act.put, List.setIfInBounds_toArray, List.set_cons_zero, List.set_cons_succ]
              refine own_take (v := ?v391) 20 (some 33) rfl rfl (by kernel_rfl) (fun _ _ _ h => h) rfl (by assumption) ?o391 ?_
              case o391 => (intro w hSw; (try dsimp only at hSw); go_simp; try (with_reducible rfl))
              try simp only [Act.put, List.setIfInBounds_toArray, List.set_cons_zero, List.set_cons_succ]
              refine own_take (v := ?v392) 21 (some 34) rfl rfl (by kernel_rfl) (fun _ _ _ h => h) rfl (by assumption) ?o392 ?_
              case o392 => (intro w hSw; (try dsimp only at hSw); go_simp; try (with_reducible rfl))
              try simp only [Act.put, List.setIfInBounds_toArray, List.set_cons_zero, List.set_cons_succ]
              refine own_take (v := ?v393) 22 (some 35) rfl rfl (by kernel_rfl) (fun _ _ _ h => h) rfl (by assumption) ?o393 ?_
              case o393 => (intro w hSw; (try dsimp only at hSw); go_simp; try (with_reducible rfl))
              try simp only [Act.put, List.setIfInBounds_toArray, List.set_cons_zero, List.set_cons_succ]
              refine own_take (v := ?v394) 23 (some 36) rfl rfl (by kernel_rfl) (fun _ _ _ h => h) rfl (by assumption) ?o394 ?_
              case o394 => (intro w hSw; (try dsimp only at hSw); go_simp; try (with_reducible rfl))
              try simp only [Act.put, List.setIfInBounds_toArray, List.set_cons_zero, List.set_cons_succ]
              refine own_take (v := ?v395) 24 (some 37) rfl rfl (by kernel_rfl) (fun _ _ _ h => h) rfl (by assumption) ?o395 ?_
              case o395 => (intro w hSw; (try dsimp only at hSw); go_simp; try (with_reducible rfl))
              try simp only [Act.put, List.setIfInBounds_toArray, List.set_cons_zero, List.set_cons_succ]
              refine own_take (v := ?v396) 25 (some 38) rfl rfl (by kernel_rfl) (fun _ _ _ h => h) rfl (by assumption) ?o396 ?_
              case o396 => (intro w hSw; (try dsimp only at hSw); go_simp; try (with_reducible rfl))
              try simp only [Act.put, List.setIfInBounds_toArray, List.set_cons_zero, List.set_cons_succ]
              refine own_take (v := ?v397) 26 (some 39) rfl rfl (by kernel_rfl) (fun _ _ _ h => h) rfl (by assumption) ?o397 ?_
              case o397 => (intro w hSw; (try dsimp only at hSw); go_simp; try (with_reducible rfl))
              try simp only [Act.put, List.setIfInBounds_toArray, List.set_cons_zero, List.set_cons_succ]
              refine own_take (v := ?v398) 27 (some 40) rfl rfl (by kernel_rfl) (fun _ _ _ h => h) rfl (by assumption) ?o398 ?_
              case o398 => (intro w hSw; (try dsimp only at hSw); go_simp; try (with_reducible rfl))
              try simp only [Act.put, List.setIfInBounds_toArray, List.set_cons_zero, List.set_cons_succ]
              refine own_take (v := ?v399) 28 (some 41) rfl rfl (by kernel_rfl) (fun _ _ _ h => h) rfl (by assumption) ?o399 ?_
              case o399 => (intro w hSw; (try dsimp only at hSw); go_simp; try (with_reducible rfl))
              try simp only [Act.put, List.setIfInBounds_toArray, List.set_cons_zero, List.set_cons_succ]
              refine own_take (v := ?v400) 29 (some 42) rfl rfl (by kernel_rfl) (fun _ _ _ h => h) rfl (by assumption) ?o400 ?_
              case o400 => (intro w hSw; (try dsimp only at hSw); go_simp; try (with_reducible rfl))
              try simp only [Act.put, List.setIfInBounds_toArray, List.set_cons_zero, List.set_cons_succ]
              refine own_step 30 (by kernel_rfl) rfl (fun K hK => ?_)
              go_simp
              (first | (go_at_call 237; refine (HC.out _ ?_).mono ?_; (go_split_ands; assumption); rintro e w1 ⟨rfl, hb1⟩) | (go_at_call 238; with_reducible refine (HHS.out _ ?_).mono ?_; (go_split_ands; assumption); rintro e w1 ⟨rfl, hb1⟩) | (go_at_call 238; with_reducible refine (HHD.out _ ?_).mono ?_; (go_split_ands; assumption); rintro e w1 ⟨rfl, hb1⟩))
              go_wp2_with fail
              refine hK.out _ _ ?o401 (fun hH2 => ?_)
              case o401 => ((try dsimp only); first | done | (first | (exact KS.out _ (Below.refl _ _)) | (exact KS.out _ (below_drewN (Below.refl _ _) 1)) | (go_split_ands; refine KS.out _ ?_; assumption)))
              clear hK K hH1
              try simp only [Act.put, List.setIfInBounds_toArray, List.set_cons_zero, List.set_cons_succ]
              refine own_take (v := ?v402) 31 (some 44) rfl rfl (by kernel_rfl) (fun _ _ _ h => h) rfl (by assumption) ?o402 ?_
              case o402 => (intro w hSw; (try dsimp only at hSw); go_simp; try (with_reducible rfl))
              try simp only [Act.put, List.setIfInBounds_toArray, List.set_cons_zero, List.set_cons_succ]
              refine own_take (v := ?v403) 32 (some 45) rfl rfl (by kernel_rfl) (fun _ _ _ h => h) rfl (by assumption) ?o403 ?_
              case o403 => (intro w hSw; (try dsimp only at hSw); go_simp; try (with_reducible rfl))
              try simp only [Act.put, List.setIfInBounds_toArray, List.set_cons_zero, List.set_cons_succ]
              refine own_take (v := ?v404) 33 (some 46) rfl rfl (by kernel_rfl) (fun _ _ _ h => h) rfl (by assumption) ?o404 ?_
              case o404 => (intro w hSw; (try dsimp only at hSw); go_simp; try (with_reducible rfl))
              try simp only [Act.put, List.setIfInBounds_toArray, List.set_cons_zero, List.set_cons_succ]
              refine own_take (v := ?v405) 34 (some 47) rfl rfl (by kernel_rfl) (fun _ _ _ h => h) rfl (by assumption) ?o405 ?_
              case o405 => (intro w hSw; (try dsimp only at hSw); go_simp; try (with_reducible rfl))
              try simp only [Act.put, List.setIfInBounds_toArray, List.set_cons_zero, List.set_cons_succ]
              refine own_take (v := ?v406) 35 (some 48) rfl rfl (by kernel_rfl) (fun _ _ _ h => h) rfl (by assumption) ?o406 ?_
              case o406 => (intro w hSw; (try dsimp only at hSw); go_simp; try (with_reducible rfl))
              try simp only [Act.put, List.setIfInBounds_toArray, List.set_cons_zero, List.set_cons_succ]
              refine own_take (v := ?v407) 36 (some 49) rfl rfl (by kernel_rfl) (fun _ _ _ h => h) rfl (by assumption) ?o407 ?_
              case o407 => (intro w hSw; (try dsimp only at hSw); go_simp; try (with_reducible rfl))
              try simp only [Act.put, List.setIfInBounds_toArray, List.set_cons_zero, List.set_cons_succ]
              refine own_step 37 (by kernel_rfl) rfl (fun K hK => ?_)
              go_simp
              (first | (go_at_call 237; refine (HC.out _ ?_).mono ?_; (go_split_ands; assumption); rintro e w1 ⟨rfl, hb1⟩) | (go_at_call 238; with_reducible refine (HHS.out _ ?_).mono ?_; (go_split_ands; assumption); rintro e w1 ⟨rfl, hb1⟩) | (go_at_call 238; with_reducible refine (HHD.out _ ?_).mono ?_; (go_split_ands; assumption); rintro e w1 ⟨rfl, hb1⟩))
              go_wp2_with fail
              refine hK.out _ _ ?o408 (fun hH3 => ?_)
              case o408 => ((try dsimp only); first | done | (first | (exact KS.out _ (Below.refl _ _)) | (exact KS.out _ (below_drewN (Below.refl _ _) 1)) | (go_split_ands; refine KS.out _ ?_; assumption)))
              clear hK K hH2
              try simp only [Act.put, List.setIfInBounds_toArray, List.set_cons_zero, List.set_cons_succ]
              refine own_take (v := ?v409) 38 (some 51) rfl rfl (by kernel_rfl) (fun _ _ _ h => h) rfl (by assumption) ?o409 ?_
              case o409 => (intro w hSw; (try dsimp only at hSw); go_simp; try (with_reducible rfl))
              try simp only [Act.put, List.setIfInBounds_toArray, List.set_cons_zero, List.set_cons_succ]
              refine own_take (v := ?v410) 39 (some 52) rfl rfl (by kernel_rfl) (fun _ _ _ h => h) rfl (by assumption) ?o410 ?_
              case o410 => (intro w hSw; (try dsimp only at hSw); go_simp; try (with_reducible rfl))
              try simp only [Act.put, List.setIfInBounds_toArray, List.set_cons_zero, List.set_cons_succ]
              refine wpAnyH_done (by kernel_rfl) ?_ _
              go_wp2_with fail
              go_ret
              exact ⟨by rw [HT.out]; rfl, below_call hB0 hB0.size (below_call HB9.out HB9.out.size (by go_split_ands; assumption))⟩
            | true =>
              have HT := Lib.hid (range_step HN.out (show relIn g.nodes g.rels g.nextRel (m + 1) = true by rw [HX.out, q2, q4]; simp))
              have hw' := hw.out
              have hw2 := hw2_.out
              refine wp_region_held_drew (S := (fun w' => w'.cell? ⟨wr.heap.size, 0, none⟩ = some (.int .i64 x.id) ∧ w'.cell? ⟨wr.heap.size, 1, none⟩ = some (.int .i64 x.src) ∧ w'.cell? ⟨wr.heap.size, 2, none⟩ = some (.int .i64 x.dst) ∧ w'.cell? ⟨wr.heap.size, 3, none⟩ = some (.string x.type) ∧ w'.cell? ⟨wr.heap.size, 4, none⟩ = some (.slice X2 x.props.length e2) ∧ w'.cell? ⟨w.heap.size, 0, none⟩ = some (.slice A1 g.nodes.length c1) ∧ w'.cell? ⟨w.heap.size, 1, none⟩ = some (.slice (some ⟨b, off, none⟩) g.rels.length c2) ∧ w'.cell? ⟨w.heap.size, 2, none⟩ = some (.int .i64 g.nextNode) ∧ w'.cell? ⟨w.heap.size, 3, none⟩ = some (.int .i64 g.nextRel) ∧ w'.cell? ⟨b, off + m * 5, none⟩ = some (.int .i64 pid) ∧ Below W1.heap.size W1 w')) (by kernel_rfl) ?o411 (fun hH0 => ?_)
              case o411 => ((try dsimp only); first | done | (first | (exact KS.out _ (Below.refl _ _)) | (exact KS.out _ (below_drewN (Below.refl _ _) 1)) | (go_split_ands; refine KS.out _ ?_; assumption)))
              refine own_take (v := ?v412) 0 (some 13) rfl rfl (by kernel_rfl) (fun _ _ _ h => h) rfl (by assumption) ?o412 ?_
              case o412 => (intro w hSw; (try dsimp only at hSw); go_simp; try (with_reducible rfl))
              try simp only [Act.put, List.setIfInBounds_toArray, List.set_cons_zero, List.set_cons_succ]
              refine own_step 1 (by kernel_rfl) rfl (fun K hK => ?_)
              go_simp
              (first | (go_at_call 237; refine (HC.out _ ?_).mono ?_; (go_split_ands; assumption); rintro e w1 ⟨rfl, hb1⟩) | (go_at_call 238; with_reducible refine (HHS.out _ ?_).mono ?_; (go_split_ands; assumption); rintro e w1 ⟨rfl, hb1⟩) | (go_at_call 238; with_reducible refine (HHD.out _ ?_).mono ?_; (go_split_ands; assumption); rintro e w1 ⟨rfl, hb1⟩))
              go_wp2_with fail
              refine hK.out _ _ ?o413 (fun hH1 => ?_)
              case o413 => ((try dsimp only); first | done | (first | (exact KS.out _ (Below.refl _ _)) | (exact KS.out _ (below_drewN (Below.refl _ _) 1)) | (go_split_ands; refine KS.out _ ?_; assumption)))
              clear hK K hH0
              try simp only [Act.put, List.setIfInBounds_toArray, List.set_cons_zero, List.set_cons_succ]
              refine own_take (v := ?v414) 2 (some 15) rfl rfl (by kernel_rfl) (fun _ _ _ h => h) rfl (by assumption) ?o414 ?_
              case o414 => (intro w hSw; (try dsimp only at hSw); go_simp; try (with_reducible rfl))
              try simp only [Act.put, List.setIfInBounds_toArray, List.set_cons_zero, List.set_cons_succ]
              refine own_take (v := ?v415) 3 (some 16) rfl rfl (by kernel_rfl) (fun _ _ _ h => h) rfl (by assumption) ?o415 ?_
              case o415 => (intro w hSw; (try dsimp only at hSw); go_simp; try (with_reducible rfl))
              try simp only [Act.put, List.setIfInBounds_toArray, List.set_cons_zero, List.set_cons_succ]
              refine own_take (v := ?v416) 4 (some 17) rfl rfl (by kernel_rfl) (fun _ _ _ h => h) rfl (by assumption) ?o416 ?_
              case o416 => (intro w hSw; (try dsimp only at hSw); go_simp; try (with_reducible rfl))
              try simp only [Act.put, List.setIfInBounds_toArray, List.set_cons_zero, List.set_cons_succ]
              refine own_take (v := ?v417) 5 (some 18) rfl rfl (by kernel_rfl) (fun _ _ _ h => h) rfl (by assumption) ?o417 ?_
              case o417 => (intro w hSw; (try dsimp only at hSw); go_simp; try (with_reducible rfl))
              try simp only [Act.put, List.setIfInBounds_toArray, List.set_cons_zero, List.set_cons_succ]
              refine own_take (v := ?v418) 6 (some 19) rfl rfl (by kernel_rfl) (fun _ _ _ h => h) rfl (by assumption) ?o418 ?_
              case o418 => (intro w hSw; (try dsimp only at hSw); go_simp; try (with_reducible rfl))
              try simp only [Act.put, List.setIfInBounds_toArray, List.set_cons_zero, List.set_cons_succ]
              refine own_take (v := ?v419) 7 (some 20) rfl rfl (by kernel_rfl) (fun _ _ _ h => h) rfl (by assumption) ?o419 ?_
              case o419 => (intro w hSw; (try dsimp only at hSw); go_simp; try (with_reducible rfl))
              try simp only [Act.put, List.setIfInBounds_toArray, List.set_cons_zero, List.set_cons_succ]
              refine own_take (v := ?v420) 8 (some 21) rfl rfl (by kernel_rfl) (fun _ _ _ h => h) rfl (by assumption) ?o420 ?_
              case o420 => (intro w hSw; (try dsimp only at hSw); go_simp; try (with_reducible rfl))
              try simp only [Act.put, List.setIfInBounds_toArray, List.set_cons_zero, List.set_cons_succ]
              refine own_take (v := ?v421) 9 (some 22) rfl rfl (by kernel_rfl) (fun _ _ _ h => h) rfl (by assumption) ?o421 ?_
              case o421 => (intro w hSw; (try dsimp only at hSw); go_simp; try (with_reducible rfl))
              try simp only [Act.put, List.setIfInBounds_toArray, List.set_cons_zero, List.set_cons_succ]
              refine own_take (v := ?v422) 10 (some 23) rfl rfl (by kernel_rfl) (fun _ _ _ h => h) rfl (by assumption) ?o422 ?_
              case o422 => (intro w hSw; (try dsimp only at hSw); go_simp; try (with_reducible rfl))
              try simp only [Act.put, List.setIfInBounds_toArray, List.set_cons_zero, List.set_cons_succ]
              refine own_take (v := ?v423) 11 (some 24) rfl rfl (by kernel_rfl) (fun _ _ _ h => h) rfl (by assumption) ?o423 ?_
              case o423 => (intro w hSw; (try dsimp only at hSw); go_simp; try (with_reducible rfl))
              try simp only [Act.put, List.setIfInBounds_toArray, List.set_cons_zero, List.set_cons_succ]
              refine own_take (v := ?v424) 12 (some 25) rfl rfl (by kernel_rfl) (fun _ _ _ h => h) rfl (by assumption) ?o424 ?_
              case o424 => (intro w hSw; (try dsimp only at hSw); go_simp; try (with_reducible rfl))
              try simp only [Act.put, List.setIfInBounds_toArray, List.set_cons_zero, List.set_cons_succ]
              refine own_take (v := ?v425) 13 (some 26) rfl rfl (by kernel_rfl) (fun _ _ _ h => h) rfl (by assumption) ?o425 ?_
              case o425 => (intro w hSw; (try dsimp only at hSw); go_simp; try (with_reducible rfl))
              try simp only [Act.put, List.setIfInBounds_toArray, List.set_cons_zero, List.set_cons_succ]
              refine own_take (v := ?v426) 14 (some 27) rfl rfl (by kernel_rfl) (fun _ _ _ h => h) rfl (by assumption) ?o426 ?_
              case o426 => (intro w hSw; (try dsimp only at hSw); go_simp; try (with_reducible rfl))
              try simp only [Act.put, List.setIfInBounds_toArray, List.set_cons_zero, List.set_cons_succ]
              refine own_take (v := ?v427) 15 (some 28) rfl rfl (by kernel_rfl) (fun _ _ _ h => h) rfl (by assumption) ?o427 ?_
              case o427 => (intro w hSw; (try dsimp only at hSw); go_simp; try (with_reducible rfl))
              try simp only [Act.put, List.setIfInBounds_toArray, List.set_cons_zero, List.set_cons_succ]
              refine own_take (v := ?v428) 16 (some 29) rfl rfl (by kernel_rfl) (fun _ _ _ h => h) rfl (by assumption) ?o428 ?_
              case o428 => (intro w hSw; (try dsimp only at hSw); go_simp; try (with_reducible rfl))
              try simp only [Act.put, List.setIfInBounds_toArray, List.set_cons_zero, List.set_cons_succ]
              refine own_take (v := ?v429) 17 (some 30) rfl rfl (by kernel_rfl) (fun _ _ _ h => h) rfl (by assumption) ?o429 ?_
              case o429 => (intro w hSw; (try dsimp only at hSw); go_simp; try (with_reducible rfl))
              try simp only [Act.put, List.setIfInBounds_toArray, List.set_cons_zero, List.set_cons_succ]
              refine own_take (v := ?v430) 18 (some 31) rfl rfl (by kernel_rfl) (fun _ _ _ h => h) rfl (by assumption) ?o430 ?_
              case o430 => (intro w hSw; (try dsimp only at hSw); go_simp; try (with_reducible rfl))
              try simp only [Act.put, List.setIfInBounds_toArray, List.set_cons_zero, List.set_cons_succ]
              refine own_take (v := ?v431) 19 (some 32) rfl rfl (by kernel_rfl) (fun _ _ _ h => h) rfl (by assumption) ?o431 ?_
              case o431 => (intro w hSw; (try dsimp only at hSw); go_simp; try (with_reducible rfl))
              try simp only [Act.put, List.setIfInBounds_toArray, List.set_cons_zero, List.set_cons_succ]
              refine own_take (v := ?v432) 20 (some 33) rfl rfl (by kernel_rfl) (fun _ _ _ h => h) rfl (by assumption) ?o432 ?_
              case o432 => (intro w hSw; (try dsimp only at hSw); go_simp; try (with_reducible rfl))
              try simp only [Act.put, List.setIfInBounds_toArray, List.set_cons_zero, List.set_cons_succ]
              refine own_take (v := ?v433) 21 (some 34) rfl rfl (by kernel_rfl) (fun _ _ _ h => h) rfl (by assumption) ?o433 ?_
              case o433 => (intro w hSw; (try dsimp only at hSw); go_simp; try (with_reducible rfl))
              try simp only [Act.put, List.setIfInBounds_toArray, List.set_cons_zero, List.set_cons_succ]
              refine own_take (v := ?v434) 22 (some 35) rfl rfl (by kernel_rfl) (fun _ _ _ h => h) rfl (by assumption) ?o434 ?_
              case o434 => (intro w hSw; (try dsimp only at hSw); go_simp; try (with_reducible rfl))
              try simp only [Act.put, List.setIfInBounds_toArray, List.set_cons_zero, List.set_cons_succ]
              refine own_take (v := ?v435) 23 (some 36) rfl rfl (by kernel_rfl) (fun _ _ _ h => h) rfl (by assumption) ?o435 ?_
              case o435 => (intro w hSw; (try dsimp only at hSw); go_simp; try (with_reducible rfl))
              try simp only [Act.put, List.setIfInBounds_toArray, List.set_cons_zero, List.set_cons_succ]
              refine own_take (v := ?v436) 24 (some 37) rfl rfl (by kernel_rfl) (fun _ _ _ h => h) rfl (by assumption) ?o436 ?_
              case o436 => (intro w hSw; (try dsimp only at hSw); go_simp; try (with_reducible rfl))
              try simp only [Act.put, List.setIfInBounds_toArray, List.set_cons_zero, List.set_cons_succ]
              refine own_take (v := ?v437) 25 (some 38) rfl rfl (by kernel_rfl) (fun _ _ _ h => h) rfl (by assumption) ?o437 ?_
              case o437 => (intro w hSw; (try dsimp only at hSw); go_simp; try (with_reducible rfl))
              try simp only [Act.put, List.setIfInBounds_toArray, List.set_cons_zero, List.set_cons_succ]
              refine own_take (v := ?v438) 26 (some 39) rfl rfl (by kernel_rfl) (fun _ _ _ h => h) rfl (by assumption) ?o438 ?_
              case o438 => (intro w hSw; (try dsimp only at hSw); go_simp; try (with_reducible rfl))
              try simp only [Act.put, List.setIfInBounds_toArray, List.set_cons_zero, List.set_cons_succ]
              refine own_take (v := ?v439) 27 (some 40) rfl rfl (by kernel_rfl) (fun _ _ _ h => h) rfl (by assumption) ?o439 ?_
              case o439 => (intro w hSw; (try dsimp only at hSw); go_simp; try (with_reducible rfl))
              try simp only [Act.put, List.setIfInBounds_toArray, List.set_cons_zero, List.set_cons_succ]
              refine own_take (v := ?v440) 28 (some 41) rfl rfl (by kernel_rfl) (fun _ _ _ h => h) rfl (by assumption) ?o440 ?_
              case o440 => (intro w hSw; (try dsimp only at hSw); go_simp; try (with_reducible rfl))
              try simp only [Act.put, List.setIfInBounds_toArray, List.set_cons_zero, List.set_cons_succ]
              refine own_take (v := ?v441) 29 (some 42) rfl rfl (by kernel_rfl) (fun _ _ _ h => h) rfl (by assumption) ?o441 ?_
              case o441 => (intro w hSw; (try dsimp only at hSw); go_simp; try (with_reducible rfl))
              try simp only [Act.put, List.setIfInBounds_toArray, List.set_cons_zero, List.set_cons_succ]
              refine own_step 30 (by kernel_rfl) rfl (fun K hK => ?_)
              go_simp
              (first | (go_at_call 237; refine (HC.out _ ?_).mono ?_; (go_split_ands; assumption); rintro e w1 ⟨rfl, hb1⟩) | (go_at_call 238; with_reducible refine (HHS.out _ ?_).mono ?_; (go_split_ands; assumption); rintro e w1 ⟨rfl, hb1⟩) | (go_at_call 238; with_reducible refine (HHD.out _ ?_).mono ?_; (go_split_ands; assumption); rintro e w1 ⟨rfl, hb1⟩))
              go_wp2_with fail
              refine hK.out _ _ ?o442 (fun hH2 => ?_)
              case o442 => ((try dsimp only); first | done | (first | (exact KS.out _ (Below.refl _ _)) | (exact KS.out _ (below_drewN (Below.refl _ _) 1)) | (go_split_ands; refine KS.out _ ?_; assumption)))
              clear hK K hH1
              try simp only [Act.put, List.setIfInBounds_toArray, List.set_cons_zero, List.set_cons_succ]
              refine own_take (v := ?v443) 31 (some 44) rfl rfl (by kernel_rfl) (fun _ _ _ h => h) rfl (by assumption) ?o443 ?_
              case o443 => (intro w hSw; (try dsimp only at hSw); go_simp; try (with_reducible rfl))
              try simp only [Act.put, List.setIfInBounds_toArray, List.set_cons_zero, List.set_cons_succ]
              refine own_take (v := ?v444) 32 (some 45) rfl rfl (by kernel_rfl) (fun _ _ _ h => h) rfl (by assumption) ?o444 ?_
              case o444 => (intro w hSw; (try dsimp only at hSw); go_simp; try (with_reducible rfl))
              try simp only [Act.put, List.setIfInBounds_toArray, List.set_cons_zero, List.set_cons_succ]
              refine own_take (v := ?v445) 33 (some 46) rfl rfl (by kernel_rfl) (fun _ _ _ h => h) rfl (by assumption) ?o445 ?_
              case o445 => (intro w hSw; (try dsimp only at hSw); go_simp; try (with_reducible rfl))
              try simp only [Act.put, List.setIfInBounds_toArray, List.set_cons_zero, List.set_cons_succ]
              refine own_take (v := ?v446) 34 (some 47) rfl rfl (by kernel_rfl) (fun _ _ _ h => h) rfl (by assumption) ?o446 ?_
              case o446 => (intro w hSw; (try dsimp only at hSw); go_simp; try (with_reducible rfl))
              try simp only [Act.put, List.setIfInBounds_toArray, List.set_cons_zero, List.set_cons_succ]
              refine own_take (v := ?v447) 35 (some 48) rfl rfl (by kernel_rfl) (fun _ _ _ h => h) rfl (by assumption) ?o447 ?_
              case o447 => (intro w hSw; (try dsimp only at hSw); go_simp; try (with_reducible rfl))
              try simp only [Act.put, List.setIfInBounds_toArray, List.set_cons_zero, List.set_cons_succ]
              refine own_take (v := ?v448) 36 (some 49) rfl rfl (by kernel_rfl) (fun _ _ _ h => h) rfl (by assumption) ?o448 ?_
              case o448 => (intro w hSw; (try dsimp only at hSw); go_simp; try (with_reducible rfl))
              try simp only [Act.put, List.setIfInBounds_toArray, List.set_cons_zero, List.set_cons_succ]
              refine own_step 37 (by kernel_rfl) rfl (fun K hK => ?_)
              go_simp
              (first | (go_at_call 237; refine (HC.out _ ?_).mono ?_; (go_split_ands; assumption); rintro e w1 ⟨rfl, hb1⟩) | (go_at_call 238; with_reducible refine (HHS.out _ ?_).mono ?_; (go_split_ands; assumption); rintro e w1 ⟨rfl, hb1⟩) | (go_at_call 238; with_reducible refine (HHD.out _ ?_).mono ?_; (go_split_ands; assumption); rintro e w1 ⟨rfl, hb1⟩))
              go_wp2_with fail
              refine hK.out _ _ ?o449 (fun hH3 => ?_)
              case o449 => ((try dsimp only); first | done | (first | (exact KS.out _ (Below.refl _ _)) | (exact KS.out _ (below_drewN (Below.refl _ _) 1)) | (go_split_ands; refine KS.out _ ?_; assumption)))
              clear hK K hH2
              try simp only [Act.put, List.setIfInBounds_toArray, List.set_cons_zero, List.set_cons_succ]
              refine own_take (v := ?v450) 38 (some 51) rfl rfl (by kernel_rfl) (fun _ _ _ h => h) rfl (by assumption) ?o450 ?_
              case o450 => (intro w hSw; (try dsimp only at hSw); go_simp; try (with_reducible rfl))
              try simp only [Act.put, List.setIfInBounds_toArray, List.set_cons_zero, List.set_cons_succ]
              refine own_take (v := ?v451) 39 (some 52) rfl rfl (by kernel_rfl) (fun _ _ _ h => h) rfl (by assumption) ?o451 ?_
              case o451 => (intro w hSw; (try dsimp only at hSw); go_simp; try (with_reducible rfl))
              try simp only [Act.put, List.setIfInBounds_toArray, List.set_cons_zero, List.set_cons_succ]
              refine wpAnyH_done (by kernel_rfl) ?_ _
              go_wp2_with fail
              go_roundw
              case rel => exact ⟨m + 1 + 1, by omega, by go_num, HT, below_call HB9.out HB9.out.size (by go_split_ands; assumption)⟩
              case measure => simp [intOf]; omega
    · have HT := Lib.hid (show r = true by rw [← HR.out]; exact range_all HN.out (by omega))
      go_wp2_with fail
      go_ret
      exact ⟨by rw [HT.out]; rfl, below_call hB0 hB0.size hB⟩
end Go.Proofs.YtcmahpddjggcaaaGreatDoor
