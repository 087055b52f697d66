/- slices.Delete at an index's entries: one is taken out of a row of one's own. -/
import Derived.Test.YtcmahpddjggcaaaGreatDoorKEnt
import Derived.Test.YtcmahpddjggcaaaGreatDoorKRowl
import Derived.Deep.RegionLaw
import Derived.IntWalk
import Derived.Shelf.Spec.SlicesInsertGrow
import Derived.Lib.Overlaps
import Derived.Laws.Externs
namespace Go.Proofs.YtcmahpddjggcaaaGreatDoor
open Go Go.RowKit
set_option maxHeartbeats 4000000
set_option maxRecDepth 100000
def entZero : Value := .agg #[.int .i64 0, .int .i64 0, .bool false, .int .i64 0, .string ⟨#[]⟩, .slice none 0 0, .slice none 0 0]
theorem zero_ent (w : World) : (zeroValue 148).run Tryz.prog w = .ok entZero w := by kernel_rfl
theorem under_ents : Tryz.prog.underlying 30 = some (.slice 148) := by kernel_rfl
theorem delete_ent (v : Value) (xs : List EntD) (B : Nat) (I : Nat → Prop) (W : World) (i : Nat) (hi : i < xs.length) (hl : xs.length ≤ BIG) (HO : Own EntD.ty 148 B I W v xs) :
    Calls Tryz.prog 194 #[v, .int .i64 i, .int .i64 (i + 1)] W fun e w' => ∃ v1, e = .returned v1 ∧ Own EntD.ty 148 B I w' v1 (xs.take i ++ xs.drop (i + 1)) ∧ W.grownBy w' v.ownBlock ∧ v1.ownBlock = v.ownBlock := by
  obtain ⟨inner, ⟨hlen, hrow⟩, hreps⟩ := HO
  rcases hrow with ⟨_, h0⟩ | ⟨g, cap, cur, rfl, hBg, hg, hnc, hcm, hcs, htk⟩
  · omega
  obtain ⟨n, hn⟩ : ∃ n, n = xs.length := ⟨_, rfl⟩
  obtain ⟨L, hL⟩ : ∃ L : List Value, L = cur.toList := ⟨_, rfl⟩
  have hblk : Blk W g L 148 := by show W.heap[g]? = _; rw [hg, hL]
  have hLl : L.length = cap * 7 := by rw [hL, Array.length_toList, hcs]; rfl
  rw [← hL, ← hn] at htk
  rw [← hn] at hlen hnc hl hi ⊢
  have hsz : EntD.ty.sz = 7 := rfl
  rw [hsz] at hlen htk
  have hone : ∀ u ∈ inner, u.oneCell' = true := hreps.one (fun _ _ => EntD.ty.one)
  -- what stands behind the one that goes
  obtain ⟨news, hnews⟩ : ∃ news, news = inner.drop ((i + 1) * 7) := ⟨_, rfl⟩
  have hnl : news.length = (n - (i + 1)) * 7 := by rw [hnews, List.length_drop, hlen]; omega
  have hget : ∀ t u, news[t]? = some u → L[(i + 1) * 7 + t]? = some u := fun t u hu => by
    rw [hnews, List.getElem?_drop, ← htk, List.getElem?_take] at hu
    split at hu
    · exact hu
    · cases hu
  obtain ⟨y, z, hgl⟩ := (hblk.drewN 1).facts
  obtain ⟨A, hA, hsrc⟩ : ∃ A : Addr, (if cap = i + 1 then (some (⟨g, 0, none⟩ : Addr)) else some ⟨g, (i + 1) * 7, none⟩) = some A ∧ Hid (∀ t u, news[t]? = some u → W.drew.cell? (A.add t) = some u) := by
    by_cases h : cap = i + 1
    · refine ⟨⟨g, 0, none⟩, by simp [h], fun t u hu => ?_⟩
      have h0 : news.length = 0 := by rw [hnl]; omega
      rw [List.length_eq_zero_iff.1 h0] at hu
      simp at hu
    · refine ⟨⟨g, (i + 1) * 7, none⟩, by simp [h], fun t u hu => ?_⟩
      rw [Addr.add_lit]
      exact (y _).trans (hget t u hu)
  have s1 : Hid (news.length = (n - (i + 1)) * 7) := hnl
  have s2 : Hid (∀ u ∈ news, u.oneCell' = true) := fun u hu => hone u (by rw [hnews] at hu; exact List.mem_of_mem_drop hu)
  have s3 : Hid (∀ t, t < news.length → (W.drew.cell? ⟨g, 0 + i * 7 + t, none⟩).isSome = true ∧ W.drew.frozen? ⟨g, 0 + i * 7 + t, none⟩ = false) := fun t ht => by
    rw [hnl] at ht
    exact ⟨isSome_blk (hblk.drewN 1) (by rw [hLl]; have : n * 7 ≤ cap * 7 := Nat.mul_le_mul_right 7 hnc; omega), z _⟩
  obtain ⟨W1, hW1⟩ : ∃ W1, W1 = W.drew.setCells g (0 + i * 7) news := ⟨_, rfl⟩
  have hLn : n * 7 ≤ L.length := by rw [hLl]; exact Nat.mul_le_mul_right 7 hnc
  obtain ⟨hb1, hg1⟩ := setCells_heap g 148 news (0 + i * 7) W.drew L (hblk.drewN 1) (by rw [hnl]; omega)
  rw [← hW1] at hb1 hg1
  have hb1' : Blk W1 g (lay L (0 + i * 7) news) 148 := hb1
  have hl1 : (lay L (0 + i * 7) news).length = L.length := lay_len (by rw [hnl]; omega)
  obtain ⟨zs, hzs, hzl, hz1⟩ : ∃ zs, (Builtin.zeroCells entZero.cells 1).toList = zs ∧ zs.length = 7 ∧ ∀ u ∈ zs, u.oneCell' = true :=
    ⟨[.int .i64 0, .int .i64 0, .bool false, .int .i64 0, .string ⟨#[]⟩, .slice none 0 0, .slice none 0 0], by kernel_rfl, rfl, by simp; refine ⟨rfl, rfl, rfl, rfl, rfl⟩⟩
  have hk1 : i + (n - (i + 1)) = n - 1 := by omega
  have hcl : ∀ ty c, (Builtin.clear_ #[30] ty #[.slice (some ⟨g, (n - 1) * 7, none⟩) (n - (n - 1)) c]).run Tryz.prog W1 = .ok (.tuple #[]) (W1.setCells g ((n - 1) * 7) zs) := fun ty c => by
    rw [show n - (n - 1) = 1 by omega]
    exact clear_run Tryz.prog W1 _ _ ty entZero under_ents zero_ent g _ 1 c (by omega) zs hzs hz1 (fun j hj => isSome_blk hb1' (by rw [hl1]; omega)) (fun j hj => hb1'.rd.2 _)
  obtain ⟨hb2, hg2⟩ := setCells_heap g 148 zs ((n - 1) * 7) W1 _ hb1' (by rw [hl1, hzl]; omega)
  have hfin : Hid (Own EntD.ty 148 B I (W1.setCells g ((n - 1) * 7) zs) (.slice (some ⟨g, 0, none⟩) (n - 1) cap) (xs.take i ++ xs.drop (i + 1)) ∧ W.grownBy (W1.setCells g ((n - 1) * 7) zs) (some g)) := by
    have e1 : (xs.take i ++ xs.drop (i + 1)).length = n - 1 := by rw [List.length_append, List.length_take, List.length_drop, ← hn, Nat.min_eq_left (by omega)]; omega
    have e2 : (lay (lay L (0 + i * 7) news) ((n - 1) * 7) zs).take ((n - 1) * 7) = inner.take (i * 7) ++ news := by
      have e3 : (lay (lay L (0 + i * 7) news) ((n - 1) * 7) zs).take ((n - 1) * 7) = (lay L (0 + i * 7) news).take ((n - 1) * 7) := by
        rw [lay, List.append_assoc, List.take_append_of_le_length (by rw [List.length_take, hl1]; omega), List.take_take, Nat.min_self]
      rw [e3, lay, Nat.zero_add, List.take_append_of_le_length (by rw [List.length_append, List.length_take, hnl]; omega), List.take_of_length_le (by rw [List.length_append, List.length_take, hnl]; omega), ← htk, List.take_take, Nat.min_eq_left (by omega)]
    have hor : (W1.setCells g ((n - 1) * 7) zs).ownsRow B 148 EntD.ty.sz (.slice (some ⟨g, 0, none⟩) (n - 1) cap) (xs.take i ++ xs.drop (i + 1)).length (inner.take (i * 7) ++ news) := by
      rw [e1]
      refine ⟨?_, .inr ⟨g, cap, _, rfl, hBg, hb2, by omega, hcm, ?_, ?_⟩⟩
      · show _ = _ * 7
        rw [List.length_append, List.length_take, hnl, hlen, Nat.min_eq_left (by omega)]; omega
      · show (lay (lay L (0 + i * 7) news) ((n - 1) * 7) zs).length = cap * 7
        rw [lay_len (by rw [hl1, hzl]; omega), hl1, hLl]
      · exact e2
    refine ⟨⟨_, hor, ?_⟩, ?_⟩
    · rw [hnews]
      obtain ⟨r1, _⟩ := Reps.cut (fun _ _ => EntD.ty.len) i hreps
      obtain ⟨_, r2⟩ := Reps.cut (fun _ _ => EntD.ty.len) (i + 1) hreps
      have hmv : ∀ (x : EntD) cs, EntD.ty.rep (fun b => I b ∧ some b ≠ (Value.slice (some ⟨g, 0, none⟩) n cap).ownBlock) W x cs → EntD.ty.rep (fun b => I b ∧ some b ≠ (Value.slice (some ⟨g, 0, none⟩) (n - 1) cap).ownBlock) (W1.setCells g ((n - 1) * 7) zs) x cs := fun x cs h =>
        EntD.ty.mono (fun b hb => hb) (EntD.ty.move (fun b hb hlt => ?_) h)
      · exact (r1.imp hmv).append (r2.imp hmv)
      · exact (hg1.trans hg2).block b hlt (fun e => hb.2 e)
    · have h0 : W.grownBy W.drew (some g) := ⟨rfl, rfl, rfl, Nat.le_refl _, fun _ _ _ => rfl⟩
      exact (h0.trans hg1).trans hg2
  have hW : Hid (W1 = W.drew.setCells g (0 + i * 7) news) := hW1
  have hck : ¬ cap = n - 1 := by omega
  have hcm' : (cap : Int) ≤ 9223372036854775807 := by unfold maxLen at hcm; omega
  have hn1 : n - (i + 1) + i = n - 1 := by omega
  obtain ⟨i0, hi0, hz0, hz1', hz2⟩ := info_parts info_entry
  have hnI : (n : Int) ≤ 1073741824 := by rw [BIG_eq] at hl; omega
  have hic : i ≤ cap := by omega
  have hjc : i + 1 ≤ cap := by omega
  clear hW1 hb1 hb1' hb2 hg1 hg2 hblk y z htk hreps hone hget hnews
  have hq0 : (0 : Int) ≤ (i : Int) + 1 := by omega
  have hq1 : (i : Int) + 1 ≤ (n : Int) := by omega
  have HN := Lib.hid hn
  clear hn
  go_enter Tryz.func194, Tryz.ntmps194
  go_wp2_with fail
  go_region_law (refine step_append_room rfl (.tmp 22) (.tmp 25) 30 rfl 148 i0 7 under_ents hi0 hz1' g 0 i cap (by simp [Act.eval, Act.put]) A (n - (i + 1)) (cap - (i + 1)) news (by simp [Act.eval, Act.put]) s1.out hsrc.out s2.out (by omega) s3.out ?_; rw [← hW.out])
  go_wp2_with fail
  go_ret
  exact ⟨_, rfl, hfin.out.1, hfin.out.2, rfl⟩
end Go.Proofs.YtcmahpddjggcaaaGreatDoor
/- slices.Insert at an index's entries: one is put into a row of one's own. -/
namespace Go.Proofs.YtcmahpddjggcaaaGreatDoor
open Go Go.RowKit
set_option maxHeartbeats 4000000
set_option maxRecDepth 100000
/-- What Insert promises. -/
def InsP (B : Nat) (I : Nat → Prop) (W : World) (v : Value) (xs : List EntD) (e : Ending) (w' : World) : Prop :=
  ∃ v1, e = .returned v1 ∧ Own EntD.ty 148 B I w' v1 xs ∧ W.grownBy w' v.ownBlock ∧ (v1.ownBlock = v.ownBlock ∨ v1.ownBlock = some W.heap.size)
theorem insert_end (v : Value) (xs : List EntD) (B : Nat) (I : Nat → Prop) (W : World) (x : EntD) (xcs : List Value) (vb : Nat) (hl : xs.length ≤ BIG) (HO : Own EntD.ty 148 B I W v xs) (hvb : Blk W vb xcs 148)
    (hx : EntD.ty.rep (fun b => I b ∧ some b ≠ v.ownBlock) W x xcs) (hB : B ≤ W.heap.size) :
    Calls Tryz.prog 190 #[v, .int .i64 xs.length, .slice (some ⟨vb, 0, none⟩) 1 1] W (InsP B I W v (xs ++ [x])) := by
  have HO' := Lib.hid HO
  obtain ⟨inner, hown, hreps⟩ := HO
  obtain ⟨A, c, rfl, hc, hA⟩ := own_form hown
  have hlen := EntD.ty.len hx
  have hone := EntD.ty.one hx
  have HX := Lib.hid hx
  obtain ⟨i0, hi0, hz0, hz1, hz2⟩ := info_parts info_entry
  have hnI : (xs.length : Int) ≤ 1073741824 := by rw [BIG_eq] at hl; omega
  have hcI : (xs.length : Int) ≤ (c : Int) := by omega
  obtain ⟨y, z, hvl⟩ := hvb.facts
  have HN := Lib.hid hreps
  clear hreps
  have fin : ∀ v' w1, w1.ownsRow B 148 7 v' (xs.length + 1) (inner ++ xcs) → W.grownBy w1 (Value.slice A xs.length c).ownBlock → (v'.ownBlock = (Value.slice A xs.length c).ownBlock ∨ v'.ownBlock = some W.heap.size) → InsP B I W (Value.slice A xs.length c) (xs ++ [x]) (.returned v') w1 := fun v' w1 h1 h2 h3 =>
    ⟨v', rfl, HO'.out.append HX.out h2 h3 (fun inner' h' => by
      have hii : inner' = inner := by
        have l1 := h'.1; have l2 := hown.1
        rcases h'.2 with ⟨e1, e2⟩ | ⟨g, cap, cur, e1, _, hh, _, _, _, ht1⟩
        · rw [e2, Nat.zero_mul] at l1 l2
          rw [List.eq_nil_of_length_eq_zero l1, List.eq_nil_of_length_eq_zero l2]
        · rcases hown.2 with ⟨e3, e4⟩ | ⟨g2, cap2, cur2, e3, _, hh2, _, _, _, ht2⟩
          · rw [e4, Nat.zero_mul] at l1 l2
            rw [List.eq_nil_of_length_eq_zero l1, List.eq_nil_of_length_eq_zero l2]
          · rw [e1] at e3
            injection e3 with e3
            injection e3 with e3
            injection e3 with e3
            subst e3
            rw [hh] at hh2
            injection hh2 with hh2
            injection hh2 with hh2
            subst hh2
            rw [← ht1, ← ht2]
      rw [hii]; exact h1), h2, h3⟩
  have FIN := Lib.hid fin
  clear fin hA
  have hq1 : xcs.length = 1 * 7 := by rw [hlen]; rfl
  have hq2 : Hid (∀ j u, xcs[j]? = some u → W.cell? ((⟨vb, 0, none⟩ : Addr).add j) = some u) := fun j u hj => by rw [Addr.add_lit, Nat.zero_add, y]; exact hj
  have hq3 : xs.length + 1 ≤ maxLen := by rw [BIG_eq] at hl; simp only [maxLen]; omega
  have hq4 : (xs.length + 1) * 96 ≤ 140737488355328 := by rw [BIG_eq] at hl; omega
  go_enter Tryz.func190, Tryz.ntmps190
  go_wp2_with (at_builtin; refine wpList_append_own_at _ rfl _ _ 30 rfl B 148 i0 _ 7 96 under_ents hi0 hz0 hz1 hz2 rfl (by decide) _ xs.length inner rfl hown ⟨vb, 0, none⟩ 1 1 xcs rfl hq1 hq2.out hone hq3 hq4 hB ?_)
  all_goals
    intro v' w1 h1 h2 _ h3
    go_wp2_with fail
    go_ret
    cases A <;> exact FIN.out _ _ h1 h2 h3
theorem insert_shift (g cap : Nat) (xs : List EntD) (B : Nat) (I : Nat → Prop) (W : World) (i : Nat) (x : EntD) (xcs : List Value) (vb : Nat) (hi : i < xs.length) (hl : xs.length ≤ BIG) (HO : Own EntD.ty 148 B I W (.slice (some ⟨g, 0, none⟩) xs.length cap) xs)
    (hroom : xs.length + 1 ≤ cap) (hvb : Blk W vb xcs 148) (hne : vb ≠ g) (hx : EntD.ty.rep (fun b => I b ∧ some b ≠ some g) W x xcs) :
    Calls Tryz.prog 190 #[.slice (some ⟨g, 0, none⟩) xs.length cap, .int .i64 i, .slice (some ⟨vb, 0, none⟩) 1 1] W (InsP B I W (.slice (some ⟨g, 0, none⟩) xs.length cap) (xs.take i ++ x :: xs.drop i)) := by
  obtain ⟨inner, ⟨hlen, hrow⟩, hreps⟩ := HO
  rcases hrow with ⟨h00, _⟩ | ⟨g', cap', cur, hge, hBg, hg, hnc, hcm, hcs, htk⟩
  · cases h00
  simp only [Value.slice.injEq, Option.some.injEq, Addr.mk.injEq, and_true, true_and] at hge
  obtain ⟨rfl, rfl⟩ := hge
  obtain ⟨n, hn⟩ : ∃ n, n = xs.length := ⟨_, rfl⟩
  obtain ⟨L, hL⟩ : ∃ L : List Value, L = cur.toList := ⟨_, rfl⟩
  have hblk : Blk W g L 148 := by show W.heap[g]? = _; rw [hg, hL]
  have hLl : L.length = cap * 7 := by rw [hL, Array.length_toList, hcs]; rfl
  rw [← hL, ← hn] at htk
  rw [← hn] at hlen hnc hl hi hroom ⊢
  have hsz : EntD.ty.sz = 7 := rfl
  rw [hsz] at hlen htk
  have hone : ∀ u ∈ inner, u.oneCell' = true := hreps.one (fun _ _ => EntD.ty.one)
  have hxl := EntD.ty.len hx
  rw [hsz] at hxl
  have hxone := EntD.ty.one hx
  have hLn : (n + 1) * 7 ≤ L.length := by rw [hLl]; exact Nat.mul_le_mul_right 7 hroom
  -- what is moved
  obtain ⟨news, hnews⟩ : ∃ news, news = inner.drop (i * 7) := ⟨_, rfl⟩
  have hnl : news.length = (n - i) * 7 := by rw [hnews, List.length_drop, hlen]; omega
  have hget : ∀ t u, news[t]? = some u → L[i * 7 + t]? = some u := fun t u hu => by
    rw [hnews, List.getElem?_drop, ← htk, List.getElem?_take] at hu
    split at hu
    · exact hu
    · cases hu
  obtain ⟨vy, vz, hvl⟩ := hvb.facts
  have hd := hblk.drewN 1
  have hinfo : (Tryz.prog.info? 148).map (·.size) = some 7 := by
    obtain ⟨i0, hi0, h0, h1, h2⟩ := info_parts info_entry
    rw [hi0]; simp [h1]
  have hov : ∀ lb cb, (callFunc 258 #[.slice (some ⟨vb, 0, none⟩) 1 1, .slice (some ⟨g, (i + 1) * 7, none⟩) lb cb]).run Tryz.prog W = .ok (.value (.bool false)) W := fun lb cb => by
    rw [run_callFunc_extern (P := Tryz.prog) (f := 258) Tryz.func258 (by kernel_rfl) (by kernel_rfl) (by kernel_rfl) (e := Extern.SlicesOverlaps.overlaps #[30, 30] #[4]) (by kernel_rfl),
      Lib.run_overlaps_apart W 30 4 148 under_ents 7 (fun w => by kernel_rfl) ⟨vb, 0, none⟩ ⟨g, (i + 1) * 7, none⟩ 1 1 lb cb hne 148 148 xcs.length L.length
        (by show W.shape? vb = _; unfold World.shape?; rw [hvb]; rfl) (by show W.shape? g = _; unfold World.shape?; rw [hblk]; rfl) (by omega) (vz _) (vz _)]
    rfl
  have hcp1 : ∀ ty dc sc, (Builtin.copy_ #[30, 30] ty #[.slice (some ⟨g, (i + 1) * 7, none⟩) (n - i) dc, .slice (some ⟨g, i * 7, none⟩) (n + 1 - i) sc]).run Tryz.prog W.drew = .ok (goInt (Nat.min (n + 1 - i) (n - i))) (W.drew.setCells g ((i + 1) * 7) news) := fun ty dc sc =>
    copy_run Tryz.prog W.drew _ _ ty 148 7 g ((i + 1) * 7) (n - i) dc ⟨g, i * 7, none⟩ (n + 1 - i) sc news under_ents hinfo (by rw [hnl, show Nat.min (n + 1 - i) (n - i) = n - i from Nat.min_eq_right (by omega)])
      (fun j v hj => by rw [Addr.add_lit]; exact (hd.rd.1 _).trans (hget j v hj)) (fun j hj => isSome_blk hd (by rw [hnl] at hj; omega)) (fun j hj => hd.rd.2 _) (fun v hv => hone v (by rw [hnews] at hv; exact List.mem_of_mem_drop hv))
  obtain ⟨hb1, hg1⟩ := setCells_heap g 148 news ((i + 1) * 7) W.drew L hd (by rw [hnl]; omega)
  obtain ⟨W1, hW1⟩ : ∃ W1, W1 = W.drew.setCells g ((i + 1) * 7) news := ⟨_, rfl⟩
  rw [← hW1] at hb1 hg1 hcp1
  have hb1' : Blk W1 g (lay L ((i + 1) * 7) news) 148 := hb1
  have hl1 : (lay L ((i + 1) * 7) news).length = L.length := lay_len (by rw [hnl]; omega)
  have hcp2 : ∀ ty dc, (Builtin.copy_ #[30, 30] ty #[.slice (some ⟨g, i * 7, none⟩) (n + 1 - i) dc, .slice (some ⟨vb, 0, none⟩) 1 1]).run Tryz.prog W1 = .ok (goInt (Nat.min 1 (n + 1 - i))) (W1.setCells g (i * 7) xcs) := fun ty dc =>
    copy_run Tryz.prog W1 _ _ ty 148 7 g (i * 7) (n + 1 - i) dc ⟨vb, 0, none⟩ 1 1 xcs under_ents hinfo (by rw [hxl, show Nat.min 1 (n + 1 - i) = 1 from Nat.min_eq_left (by omega)])
      (fun j v hj => by rw [Addr.add_lit, Nat.zero_add]; exact (World.cell?_of_block (a := ⟨vb, j, none⟩) ((hg1.block vb hvl (fun e => hne (by injection e))).trans rfl)).trans ((vy j).trans hj))
      (fun j hj => isSome_blk hb1' (by rw [hl1]; rw [hxl] at hj; omega)) (fun j hj => hb1'.rd.2 _) hxone
  obtain ⟨hb2, hg2⟩ := setCells_heap g 148 xcs (i * 7) W1 _ hb1' (by rw [hl1, hxl]; omega)
  have hfin : Hid (InsP B I W (.slice (some ⟨g, 0, none⟩) n cap) (xs.take i ++ x :: xs.drop i) (.returned (.slice (some ⟨g, 0, none⟩) (n + 1) cap)) (W1.setCells g (i * 7) xcs)) := by
    have e1 : (xs.take i ++ x :: xs.drop i).length = n + 1 := by rw [List.length_append, List.length_take, List.length_cons, List.length_drop, ← hn, Nat.min_eq_left (by omega)]; omega
    have e4 : (lay L ((i + 1) * 7) news).take (i * 7) = inner.take (i * 7) := by
      rw [lay, List.append_assoc, List.take_append_of_le_length (by rw [List.length_take]; omega), List.take_take, Nat.min_eq_left (by omega), ← htk, List.take_take, Nat.min_eq_left (by omega)]
    have e5 : (lay L ((i + 1) * 7) news).drop (i * 7 + 7) = news ++ L.drop ((i + 1) * 7 + news.length) := by
      rw [lay, List.append_assoc, List.drop_append_of_le_length (by rw [List.length_take]; omega), List.drop_of_length_le (by rw [List.length_take]; omega), List.nil_append]
    have e2 : (lay (lay L ((i + 1) * 7) news) (i * 7) xcs).take ((n + 1) * 7) = inner.take (i * 7) ++ (xcs ++ news) := by
      rw [lay, hxl, e4, e5]
      have hpl : (inner.take (i * 7)).length = i * 7 := by rw [List.length_take, hlen, Nat.min_eq_left (by omega)]
      generalize inner.take (i * 7) = p0 at hpl ⊢
      generalize L.drop ((i + 1) * 7 + news.length) = r0
      have e6 : p0 ++ xcs ++ (news ++ r0) = (p0 ++ (xcs ++ news)) ++ r0 := by simp
      rw [e6]
      exact List.take_left' (by rw [List.length_append, List.length_append, hpl, hxl, hnl]; omega)
    have hor : (W1.setCells g (i * 7) xcs).ownsRow B 148 EntD.ty.sz (.slice (some ⟨g, 0, none⟩) (n + 1) cap) (xs.take i ++ x :: xs.drop i).length (inner.take (i * 7) ++ (xcs ++ news)) := by
      rw [e1]
      refine ⟨?_, .inr ⟨g, cap, _, rfl, hBg, hb2, by omega, hcm, ?_, ?_⟩⟩
      · show _ = _ * 7
        rw [List.length_append, List.length_append, List.length_take, hnl, hlen, hxl, Nat.min_eq_left (by omega)]; omega
      · show (lay (lay L ((i + 1) * 7) news) (i * 7) xcs).length = cap * 7
        rw [lay_len (by rw [hl1, hxl]; omega), hl1, hLl]
      · exact e2
    have h0 : W.grownBy W.drew (some g) := ⟨rfl, rfl, rfl, Nat.le_refl _, fun _ _ _ => rfl⟩
    refine ⟨_, rfl, ⟨_, hor, ?_⟩, (h0.trans hg1).trans hg2, .inl rfl⟩
    rw [hnews]
    obtain ⟨r1, r2⟩ := Reps.cut (fun _ _ => EntD.ty.len) i hreps
    have hmv : ∀ (y : EntD) cs, EntD.ty.rep (fun b => I b ∧ some b ≠ some g) W y cs → EntD.ty.rep (fun b => I b ∧ some b ≠ some g) (W1.setCells g (i * 7) xcs) y cs := fun y cs h =>
      EntD.ty.move (fun b hb hlt => ((h0.trans hg1).trans hg2).block b hlt hb.2) h
    exact (r1.imp hmv).append ⟨xcs, _, rfl, hmv _ _ hx, r2.imp hmv⟩
  have hnI : (n : Int) ≤ 1073741824 := by rw [BIG_eq] at hl; omega
  have hcI : (cap : Int) ≤ 9223372036854775807 := by unfold maxLen at hcm; omega
  have hw1 : IntKind.i64.wrap ((i : Int) + 1) = (i : Int) + 1 := IntWalk.i64_in _ (by omega)
  have hq0 : (0 : Int) ≤ (i : Int) + 1 := by omega
  have hq1 : (i : Int) + 1 ≤ (n : Int) + 1 := by omega
  have hq2 : ¬ cap = i + 1 := by omega
  have hq3 : ¬ cap = i := by omega
  have hq4 : (i : Int) ≤ (n : Int) + 1 := by omega
  have HN := Lib.hid hn
  have HW := Lib.hid hW1
  clear hn hW1 hb1 hb1' hb2 hg1 hg2 hblk hd htk hreps hone hget hnews vy vz hvb
  go_enter Tryz.func190, Tryz.ntmps190
  go_wp2_with (simp only [hov])
  go_region_law (refine step_copy_runI rfl _ _ 30 30 rfl (.slice (some ⟨g, (i + 1) * 7, none⟩) (n - i) (cap - (i + 1))) (.slice (some ⟨g, i * 7, none⟩) (n + 1 - i) (cap - i)) (by simp [Act.eval, Act.put]) (by simp [Act.eval, Act.put]) (hcp1 _ _ _) ?_)
  go_wp2_with (at_builtin; refine wpList_copy_runI _ rfl _ _ 30 30 rfl _ _ rfl rfl (hcp2 _ _) ?_)
  go_ret
  exact hfin.out
theorem zeros_len (k : Nat) : (Builtin.zeroCells entZero.cells k).size = k * 7 := by
  simp [Builtin.zeroCells]; rfl
theorem insert_grow (g cap : Nat) (xs : List EntD) (B : Nat) (I : Nat → Prop) (W : World) (i : Nat) (x : EntD) (xcs : List Value) (vb : Nat) (hi : i < xs.length) (hl : xs.length ≤ BIG) (HO : Own EntD.ty 148 B I W (.slice (some ⟨g, 0, none⟩) xs.length cap) xs)
    (hroom : cap < xs.length + 1) (hvb : Blk W vb xcs 148) (hx : EntD.ty.rep (fun b => I b ∧ some b ≠ some g) W x xcs) (hB : B ≤ W.heap.size) :
    Calls Tryz.prog 190 #[.slice (some ⟨g, 0, none⟩) xs.length cap, .int .i64 i, .slice (some ⟨vb, 0, none⟩) 1 1] W (InsP B I W (.slice (some ⟨g, 0, none⟩) xs.length cap) (xs.take i ++ x :: xs.drop i)) := by
  obtain ⟨inner, ⟨hlen, hrow⟩, hreps⟩ := HO
  rcases hrow with ⟨h00, _⟩ | ⟨g', cap', cur, hge, hBg, hg, hnc, hcm, hcs, htk⟩
  · cases h00
  simp only [Value.slice.injEq, Option.some.injEq, Addr.mk.injEq, and_true, true_and] at hge
  obtain ⟨rfl, rfl⟩ := hge
  obtain ⟨n, hn⟩ : ∃ n, n = xs.length := ⟨_, rfl⟩
  obtain ⟨L, hL⟩ : ∃ L : List Value, L = cur.toList := ⟨_, rfl⟩
  have hblk : Blk W g L 148 := by show W.heap[g]? = _; rw [hg, hL]
  have hLl : L.length = cap * 7 := by rw [hL, Array.length_toList, hcs]; rfl
  rw [← hL, ← hn] at htk
  rw [← hn] at hlen hnc hl hi hroom ⊢
  have hsz : EntD.ty.sz = 7 := rfl
  rw [hsz] at hlen htk
  have hone : ∀ u ∈ inner, u.oneCell' = true := hreps.one (fun _ _ => EntD.ty.one)
  have hxl := EntD.ty.len hx
  rw [hsz] at hxl
  have hxone := EntD.ty.one hx
  obtain ⟨news, hnews⟩ : ∃ news, news = inner.drop (i * 7) := ⟨_, rfl⟩
  have hnl : news.length = (n - i) * 7 := by rw [hnews, List.length_drop, hlen]; omega
  have hget : ∀ t u, news[t]? = some u → L[i * 7 + t]? = some u := fun t u hu => by
    rw [hnews, List.getElem?_drop, ← htk, List.getElem?_take] at hu
    split at hu
    · exact hu
    · cases hu
  obtain ⟨vy, vz, hvl⟩ := hvb.facts
  obtain ⟨ly, lz, hgl⟩ := hblk.facts
  obtain ⟨i0, hi0, hz0, hz1, hz2⟩ := info_parts info_entry
  have hinfo : (Tryz.prog.info? 148).map (·.size) = some 7 := by rw [hi0]; simp [hz1]
  have hold : (Builtin.firstCells i0.size i (.slice (some ⟨g, 0, none⟩) i cap)).run Tryz.prog W.drew = .ok (inner.take (i * 7)).toArray W.drew := by
    rw [hz1]
    exact run_firstCells_some W.drew 7 i ⟨g, 0, none⟩ i cap (inner.take (i * 7)) (by rw [List.length_take, hlen]; omega) (fun j v hj => by
      rw [Addr.add_lit, Nat.zero_add]
      rw [List.getElem?_take, ← htk, List.getElem?_take] at hj
      split at hj
      · split at hj
        · exact (ly j).trans hj
        · cases hj
      · cases hj)
  have hkk : (n : Int) + 1 - (i : Int) = ((n + 1 - i : Nat) : Int) := by omega
  have hik : i + (n + 1 - i) = n + 1 := by omega
  obtain ⟨G, hG⟩ : ∃ G, G = grownCap W (n + 1) cap 148 := ⟨_, rfl⟩
  obtain ⟨R0, hR0⟩ : ∃ R0 : List Value, R0 = inner.take (i * 7) ++ (Builtin.zeroCells entZero.cells (n + 1 - i)).toList ++ (Builtin.zeroCells entZero.cells (G - (n + 1))).toList := ⟨_, rfl⟩
  have hGn : n + 1 ≤ G := by rw [hG]; exact grownCap_ge W _ _ _
  have hGm : G ≤ maxLen := by rw [hG]; exact grownCap_le_maxLen W (n + 1) cap 148 (by rw [BIG_eq] at hl; unfold maxLen; omega)
  have hRl : R0.length = G * 7 := by
    rw [hR0, List.length_append, List.length_append, List.length_take, hlen, Array.length_toList, Array.length_toList, zeros_len, zeros_len, Nat.min_eq_left (by omega)]; omega
  have hrz : ∀ ty, (Builtin.append_ #[30, 3] ty #[.slice (some ⟨g, 0, none⟩) i cap, .int .i64 ((n : Int) + 1 - (i : Int))]).run Tryz.prog W =
      .ok (.slice (some ⟨W.heap.size, 0, none⟩) (n + 1) G) (W.drew.alloc (.cells R0.toArray 148)) := fun ty => by
    have h := Lib.run_append_grow_zeros W 30 3 ty 148 i0 entZero .i64 .i64 under_ents under_int hi0 hz0 (some ⟨g, 0, none⟩) i cap (inner.take (i * 7)) hold (n + 1 - i) (by omega) (by omega) (by omega) (by rw [BIG_eq] at hl; omega) (by rw [hz2]; rw [BIG_eq] at hl; omega) (by rw [hz2, hik]; exact growslice_fits hroom (by rw [BIG_eq] at hl; omega))
    rw [hik, ← hG] at h
    have harr : (inner.take (i * 7)).toArray ++ Builtin.zeroCells entZero.cells (n + 1 - i) ++ Builtin.zeroCells entZero.cells (G - (n + 1)) = R0.toArray := by rw [hR0]; apply Array.ext'; simp
    rw [hkk, h, harr]
  obtain ⟨W1, hW1⟩ : ∃ W1, W1 = W.drew.alloc (.cells R0.toArray 148) := ⟨_, rfl⟩
  rw [← hW1] at hrz
  have hN : Blk W1 W.heap.size R0 148 := by rw [hW1]; exact Blk.new W.drew R0 _
  have hgr : W.grownBy W1 none := by rw [hW1]; exact ⟨rfl, rfl, rfl, by simp, fun k hk _ => (below_alloc' (Below.refl W.drew.heap.size W.drew) (Nat.le_refl _) _).block k hk⟩
  have hcpA : ∀ (W' : World), (∀ x, W'.cell? x = W1.cell? x) → (∀ x, W'.frozen? x = W1.frozen? x) → ∀ ty dc, (Builtin.copy_ #[30, 30] ty #[.slice (some ⟨W.heap.size, i * 7, none⟩) (n + 1 - i) dc, .slice (some ⟨vb, 0, none⟩) 1 1]).run Tryz.prog W' = .ok (goInt (Nat.min 1 (n + 1 - i))) (W'.setCells W.heap.size (i * 7) xcs) := fun W' hc hf ty dc =>
    copy_run Tryz.prog W' _ _ ty 148 7 W.heap.size (i * 7) (n + 1 - i) dc ⟨vb, 0, none⟩ 1 1 xcs under_ents hinfo (by rw [hxl, show Nat.min 1 (n + 1 - i) = 1 from Nat.min_eq_left (by omega)])
      (fun j v hj => by rw [Addr.add_lit, Nat.zero_add, hc]; exact (World.cell?_of_block (a := ⟨vb, j, none⟩) (hgr.block vb hvl (by simp))).trans ((vy j).trans hj))
      (fun j hj => by rw [hc]; exact isSome_blk hN (by rw [hRl]; rw [hxl] at hj; omega)) (fun j hj => by rw [hf]; exact hN.rd.2 _) hxone
  obtain ⟨hb1, hg1⟩ := setCells_heap W.heap.size 148 xcs (i * 7) W1 R0 hN (by rw [hRl, hxl]; omega)
  have hb1' : Blk (W1.setCells W.heap.size (i * 7) xcs) W.heap.size (lay R0 (i * 7) xcs) 148 := hb1
  have hl1 : (lay R0 (i * 7) xcs).length = R0.length := lay_len (by rw [hRl, hxl]; omega)
  have hcpB : ∀ (W' : World), (∀ x, W'.cell? x = (W1.setCells W.heap.size (i * 7) xcs).cell? x) → (∀ x, W'.frozen? x = (W1.setCells W.heap.size (i * 7) xcs).frozen? x) → ∀ ty dc sc, (Builtin.copy_ #[30, 30] ty #[.slice (some ⟨W.heap.size, (i + 1) * 7, none⟩) (n - i) dc, .slice (some ⟨g, i * 7, none⟩) (n - i) sc]).run Tryz.prog W' = .ok (goInt (Nat.min (n - i) (n - i))) (W'.setCells W.heap.size ((i + 1) * 7) news) := fun W' hc hf ty dc sc =>
    copy_run Tryz.prog W' _ _ ty 148 7 W.heap.size ((i + 1) * 7) (n - i) dc ⟨g, i * 7, none⟩ (n - i) sc news under_ents hinfo (by rw [hnl, show Nat.min (n - i) (n - i) = n - i from Nat.min_self _])
      (fun j v hj => by
        rw [Addr.add_lit, hc]
        exact (World.cell?_of_block (a := ⟨g, i * 7 + j, none⟩) ((hg1.block g (Nat.lt_of_lt_of_le hgl hgr.size) (fun e => by injection e with e; omega)).trans (hgr.block g hgl (by simp)))).trans ((ly _).trans (hget j v hj)))
      (fun j hj => by rw [hc]; exact isSome_blk hb1' (by rw [hl1, hRl]; rw [hnl] at hj; omega)) (fun j hj => by rw [hf]; exact hb1'.rd.2 _) (fun v hv => hone v (by rw [hnews] at hv; exact List.mem_of_mem_drop hv))
  have hfin : Hid (∀ W2 : World, W2.heap = (W1.setCells W.heap.size (i * 7) xcs).heap → W2.os = (W1.setCells W.heap.size (i * 7) xcs).os → W2.tape = (W1.setCells W.heap.size (i * 7) xcs).tape → W2.output = (W1.setCells W.heap.size (i * 7) xcs).output → InsP B I W (.slice (some ⟨g, 0, none⟩) n cap) (xs.take i ++ x :: xs.drop i) (.returned (.slice (some ⟨W.heap.size, 0, none⟩) (n + 1) G)) (W2.setCells W.heap.size ((i + 1) * 7) news)) := by
    intro W2 hh hos htp hout
    have hos := hos.trans (hg1.os.trans hgr.os)
    have htp := htp.trans (hg1.tape.trans hgr.tape)
    have hout := hout.trans (hg1.output.trans hgr.output)
    have hb2 : Blk W2 W.heap.size (lay R0 (i * 7) xcs) 148 := by show W2.heap[W.heap.size]? = _; rw [hh]; exact hb1
    obtain ⟨hb3, hg3⟩ := setCells_heap W.heap.size 148 news ((i + 1) * 7) W2 _ hb2 (by rw [hl1, hRl, hnl]; omega)
    have e1 : (xs.take i ++ x :: xs.drop i).length = n + 1 := by rw [List.length_append, List.length_take, List.length_cons, List.length_drop, ← hn, Nat.min_eq_left (by omega)]; omega
    have hpl : (inner.take (i * 7)).length = i * 7 := by rw [List.length_take, hlen, Nat.min_eq_left (by omega)]
    have e2 : (lay (lay R0 (i * 7) xcs) ((i + 1) * 7) news).take ((n + 1) * 7) = inner.take (i * 7) ++ (xcs ++ news) := by
      have e3 : (lay R0 (i * 7) xcs).take ((i + 1) * 7) = inner.take (i * 7) ++ xcs := by
        have e4 : R0.take (i * 7) = inner.take (i * 7) := by rw [hR0, List.append_assoc]; exact List.take_left' hpl
        rw [lay, e4]
        exact List.take_left' (by rw [List.length_append, hpl, hxl]; omega)
      rw [lay, e3]
      generalize (lay R0 (i * 7) xcs).drop ((i + 1) * 7 + news.length) = r0
      have e6 : inner.take (i * 7) ++ xcs ++ news ++ r0 = (inner.take (i * 7) ++ (xcs ++ news)) ++ r0 := by simp
      rw [e6]
      exact List.take_left' (by rw [List.length_append, List.length_append, hpl, hxl, hnl]; omega)
    have hgw : W.grownBy (W2.setCells W.heap.size ((i + 1) * 7) news) none := by
      have h3 : W.heap.size ≤ W2.heap.size := by rw [hh]; exact Nat.le_trans hgr.size hg1.size
      refine ⟨hg3.os.trans hos, hg3.tape.trans htp, hg3.output.trans hout, Nat.le_trans h3 hg3.size, fun k hk _ => ?_⟩
      rw [hg3.block k (Nat.lt_of_lt_of_le hk h3) (fun e => by injection e with e; omega), hh, hg1.block k (Nat.lt_of_lt_of_le hk hgr.size) (fun e => by injection e with e; omega)]
      exact hgr.block k hk (by simp)
    have hor : (W2.setCells W.heap.size ((i + 1) * 7) news).ownsRow B 148 EntD.ty.sz (.slice (some ⟨W.heap.size, 0, none⟩) (n + 1) G) (xs.take i ++ x :: xs.drop i).length (inner.take (i * 7) ++ (xcs ++ news)) := by
      rw [e1]
      refine ⟨?_, .inr ⟨W.heap.size, G, _, rfl, hB, hb3, hGn, hGm, ?_, ?_⟩⟩
      · show _ = _ * 7
        rw [List.length_append, List.length_append, hpl, hnl, hxl]; omega
      · show (lay (lay R0 (i * 7) xcs) ((i + 1) * 7) news).length = G * 7
        rw [lay_len (by rw [hl1, hRl, hnl]; omega), hl1, hRl]
      · exact e2
    refine ⟨_, rfl, ⟨_, hor, ?_⟩, ⟨hgw.os, hgw.tape, hgw.output, hgw.size, fun k hk _ => hgw.block k hk (by simp)⟩, .inr rfl⟩
    obtain ⟨r1, r2⟩ := Reps.cut (fun _ _ => EntD.ty.len) i hreps
    have r2' : Reps (EntD.ty.rep (fun b => I b ∧ some b ≠ some g) W) (xs.drop i) news := by rw [hnews]; exact r2
    have hmv : ∀ (y : EntD) cs, EntD.ty.rep (fun b => I b ∧ some b ≠ some g) W y cs → EntD.ty.rep (fun b => I b ∧ some b ≠ some W.heap.size) (W2.setCells W.heap.size ((i + 1) * 7) news) y cs := fun y cs h =>
      EntD.ty.mono (fun b hb => ⟨hb.1.1, fun e => by injection e with e; omega⟩) (EntD.ty.move (fun b hb hlt => hgw.block b hlt (by simp)) (EntD.ty.lt h))
    have r3 : Reps (EntD.ty.rep (fun b => I b ∧ some b ≠ some W.heap.size) (W2.setCells W.heap.size ((i + 1) * 7) news)) (x :: xs.drop i) (xcs ++ news) := ⟨xcs, _, rfl, hmv _ _ hx, r2'.imp hmv⟩
    exact (r1.imp hmv).append r3
  have hGi : ¬ G = i := by omega
  have hGi1 : ¬ G = i + 1 := by omega
  have hci : ¬ cap = i := by omega
  have hnI : (n : Int) ≤ 1073741824 := by rw [BIG_eq] at hl; omega
  have hcI : (cap : Int) ≤ 9223372036854775807 := by unfold maxLen at hcm; omega
  have hGI : (G : Int) ≤ 9223372036854775807 := by unfold maxLen at hGm; omega
  have hw1 : IntKind.i64.wrap ((i : Int) + 1) = (i : Int) + 1 := IntWalk.i64_in _ (by omega)
  have hq0 : (0 : Int) ≤ (i : Int) + 1 := by omega
  have hq1 : (i : Int) + 1 ≤ (n : Int) + 1 := by omega
  have hq4 : (i : Int) ≤ (n : Int) := by omega
  subst hW1
  have hE1 : ∀ x, ((W.alloc (.cells R0.toArray 148)).drew).cell? x = (W.drew.alloc (.cells R0.toArray 148)).cell? x := fun x => rfl
  have hE2 : ∀ x, ((W.alloc (.cells R0.toArray 148)).drew).frozen? x = (W.drew.alloc (.cells R0.toArray 148)).frozen? x := fun x => rfl
  have hF1 : ∀ x, (((W.alloc (.cells R0.toArray 148)).drew.setCells W.heap.size (i * 7) xcs).drew).cell? x = ((W.drew.alloc (.cells R0.toArray 148)).setCells W.heap.size (i * 7) xcs).cell? x := fun x => rfl
  have hF2 : ∀ x, (((W.alloc (.cells R0.toArray 148)).drew.setCells W.heap.size (i * 7) xcs).drew).frozen? x = ((W.drew.alloc (.cells R0.toArray 148)).setCells W.heap.size (i * 7) xcs).frozen? x := fun x => rfl
  have HN := Lib.hid hn
  clear hn hkk hik hold hR0 hG hRl hN hgr hb1 hg1 hb1' hl1 hblk ly lz htk hreps hone hget hnews vy vz hvb
  go_enter Tryz.func190, Tryz.ntmps190
  go_wp2_with (first
    | (at_builtin; refine Lib.wpList_append_run _ rfl _ _ _ _ rfl _ _ rfl rfl _ _ (hrz _) ?_)
    | (at_builtin; refine wpList_copy_runI _ rfl _ _ 30 30 rfl _ _ rfl rfl (hcpA _ hE1 hE2 _ _) ?_))
  go_region_law (refine step_copy_runI rfl _ _ 30 30 rfl (.slice (some ⟨W.heap.size, (i + 1) * 7, none⟩) (n - i) (G - (i + 1))) (.slice (some ⟨g, i * 7, none⟩) (n - i) (cap - i)) (by simp [Act.eval, Act.put]) (by simp [Act.eval, Act.put]) (hcpB _ hF1 hF2 _ _ _) ?_)
  go_wp2_with fail
  go_ret
  exact hfin.out _ rfl rfl rfl rfl
theorem insert_ent (v : Value) (xs : List EntD) (B : Nat) (I : Nat → Prop) (W : World) (i : Nat) (x : EntD) (xcs : List Value) (vb : Nat) (hi : i ≤ xs.length) (hl : xs.length ≤ BIG) (HO : Own EntD.ty 148 B I W v xs) (hvb : Blk W vb xcs 148)
    (hne : some vb ≠ v.ownBlock) (hx : EntD.ty.rep (fun b => I b ∧ some b ≠ v.ownBlock) W x xcs) (hB : B ≤ W.heap.size) :
    Calls Tryz.prog 190 #[v, .int .i64 i, .slice (some ⟨vb, 0, none⟩) 1 1] W (InsP B I W v (xs.take i ++ x :: xs.drop i)) := by
  rcases Nat.lt_or_ge i xs.length with h | h
  · obtain ⟨inner, hown, _⟩ := id HO
    rcases hown.2 with ⟨_, h0⟩ | ⟨g, cap, cur, rfl, _, _, _, _, _, _⟩
    · omega
    · rcases Nat.lt_or_ge cap (xs.length + 1) with hc | hc
      · exact insert_grow g cap xs B I W i x xcs vb h hl HO hc hvb hx hB
      · exact insert_shift g cap xs B I W i x xcs vb h hl HO hc hvb (fun e => hne (by rw [e]; rfl)) hx
  · obtain rfl : i = xs.length := by omega
    rw [List.take_length, List.drop_length]
    exact insert_end v xs B I W x xcs vb hl HO hvb hx hB
end Go.Proofs.YtcmahpddjggcaaaGreatDoor
