/- A part of the proof of FilesFitCardSaid: X6. -/
import Derived.Test.YtamefnngdhbjiaaGreatDoorFitC2
import Derived.Shelf.Spec.SlicesInsert
import Derived.Shelf.Spec.SlicesInsertGrow
set_option linter.all false
section
namespace Go.Mm
open Go.Proofs
variable [Globs]
set_option maxRecDepth 100000
section
theorem ty36 : Tryz.prog.underlying 36 = some (.slice 71) := by kernel_rfl
theorem ty3 : Tryz.prog.underlying 3 = some (.int .i64) := by kernel_rfl
theorem ty4 : Tryz.prog.underlying 4 = some .bool := by kernel_rfl
theorem in71 : ∃ i, Tryz.prog.info? 71 = some i ∧ i.size = 2 ∧ i.bytes = 24 ∧ i.zero = some (.agg #[.string ⟨#[]⟩, .int .i64 0]) := by
  have h : (Tryz.prog.info? 71).map (fun i => (i.size, i.bytes)) = some (2, 24) := by kernel_rfl
  have h' : (Tryz.prog.info? 71).bind (·.zero) = some (.agg #[.string ⟨#[]⟩, .int .i64 0]) := by kernel_rfl
  obtain ⟨j, h1, h2⟩ := Option.map_eq_some_iff.1 h
  rw [h1] at h'
  injection h2 with h2 h3
  exact ⟨j, h1, h2, h3, h'⟩
theorem copy2 (w : World) (ty : TypeId) (b off dl dc : Nat) (sa : Addr) (sl sc : Nat) (vs L : List Value) (fr : Nat × Nat) (hb : w.heap[b]? = some (.cells L.toArray 71 fr)) (hf : unfrozen fr L.length) (hl : vs.length = min sl dl * 2)
    (ho : off + vs.length ≤ L.length) (h1 : One vs) (h0 : vs ≠ []) (hs : ∀ j v, vs[j]? = some v → w.cell? (sa.add j) = some v) :
    (Builtin.copy_ #[36, 36] ty #[.slice (some ⟨b, off, none⟩) dl dc, .slice (some sa) sl sc]).run Tryz.prog w = .ok (goInt (min sl dl : Nat)) (w.putObj b (.cells (wrV L off vs).toArray 71 fr)) := by
  obtain ⟨i, hi, hsz, _⟩ := in71
  have hst := run_storeCells (P := Tryz.prog) (b := b) (t := 71) (fr := fr) vs w L off 0 hb (by omega) h1 hf
  rw [if_neg h0, Nat.add_zero] at hst
  have hlc := run_loadCells (P := Tryz.prog) (w := w) (a := sa) vs (fun j hj => hs j _ (List.getElem?_eq_getElem hj))
  rw [hl] at hlc
  have hmin : Nat.min sl dl = min sl dl := rfl
  simp only [Builtin.copy_, List.getElem?_toArray, List.getElem?_cons_zero, List.getElem?_cons_succ, Sem.run_bind, run_und ty36, Result.andThen, Builtin.lenOf, Builtin.firstCells, Sem.run_pure, run_size hi, hsz, hmin, hlc, hst]
theorem fn110 : Tryz.prog.funcs[110]? = some Tryz.f110 := by kernel_rfl
theorem nt110 : Tryz.f110.ntmps = 95 := by kernel_rfl
theorem fn148 : Tryz.prog.funcs[148]? = some Tryz.f148 := by kernel_rfl
set_option maxHeartbeats 4000000 in
theorem walk110s (b off n c i vb voff m vc : Nat) (vs L : List Value) (fr : Nat × Nat) (w : World) (hi : i < n) (hm : 0 < m) (hroom : n + m ≤ c) (hbig : (n + m) * 24 ≤ 140737488355328) (hvb : vb ≠ b)
    (hb : w.heap[b]? = some (.cells L.toArray 71 fr)) (hf : unfrozen fr L.length) (hL : off + (n + m) * 2 ≤ L.length) (hvl : vs.length = m * 2) (h1 : One L) (h1v : One vs)
    (hvs : ∀ j v, vs[j]? = some v → w.cell? ⟨vb, voff + j, none⟩ = some v)
    (kA : Nat) (hsa : w.shape? vb = some (71, kA)) (hfa : w.frozen? ⟨vb, voff, none⟩ = false) (hfe : w.frozen? ⟨vb, kA, none⟩ = false) :
    Calls Tryz.prog 110 #[.slice (some ⟨b, off, none⟩) n c, .int .i64 i, .slice (some ⟨vb, voff, none⟩) m vc] w fun e w' =>
      e = .returned (.slice (some ⟨b, off, none⟩) (n + m) c) ∧ w' = w.drew.putObj b (.cells (wrV (wrV L (off + (i + m) * 2) ((L.drop (off + i * 2)).take ((n - i) * 2))) (off + i * 2) vs).toArray 71 fr) := by
  obtain ⟨i71, hi71, hsz71, hby71, hze71⟩ := in71
  have z71 : ∀ w, (Go.sizeOf 71).run Tryz.prog w = .ok 2 w := fun w => by rw [run_size hi71, hsz71]
  have u36 := fun w => run_underlying (w := w) ty36
  have u3 := fun w => run_underlying (w := w) ty3
  have u4 := fun w => run_underlying (w := w) ty4
  have mixed := mixed
  have hz1 : ¬ ((m : Int) = 0) := by omega
  have hz2 : ¬ ((i : Int) = (n : Int)) := by omega
  have hsb : w.shape? b = some (71, L.length) := by simp only [World.shape?, hb, List.size_toArray]
  have hov : ∀ lb cb, (callFunc 148 #[.slice (some ⟨vb, voff, none⟩) m vc, .slice (some ⟨b, off + (i + m) * 2, none⟩) lb cb]).run Tryz.prog w = .ok (.value (.bool false)) w := fun lb cb => by
    rw [run_callFunc_extern fn148 (by kernel_rfl) (by kernel_rfl) (by kernel_rfl) (e := Extern.SlicesOverlaps.overlaps #[36, 36] #[4]) (by kernel_rfl),
      Lib.run_overlaps_apart w 36 4 71 ty36 2 z71 ⟨vb, voff, none⟩ ⟨b, off + (i + m) * 2, none⟩ m vc lb cb hvb 71 71 kA L.length hsa hsb (by omega) hfa hfe]
    rfl
  have hdl : ((L.drop (off + i * 2)).take ((n - i) * 2)).length = (n - i) * 2 := by rw [List.length_take, List.length_drop]; omega
  have hw1 : IntKind.i64.wrap ((i : Int) + (m : Int)) = (i : Int) + (m : Int) := by rw [IntKind.wrap_i64]; omega
  have hb1 : (0 : Int) ≤ (i : Int) + (m : Int) := by omega
  have hin : i ≤ n := by omega
  have htn : ((i : Int) + (m : Int)).toNat = i + m := by omega
  have hb2 : ¬ (c = i + m) := by omega
  have hb3 : (i : Int) ≤ (n : Int) + (m : Int) := by omega
  have hb4 : ¬ (c = i) := by omega
  have hcp1 : ∀ ty dc sc, (Builtin.copy_ #[36, 36] ty #[.slice (some ⟨b, off + (i + m) * 2, none⟩) (n + m - (i + m)) dc, .slice (some ⟨b, off + i * 2, none⟩) (n + m - i) sc]).run Tryz.prog w.drew =
      .ok (goInt (min (n + m - i) (n + m - (i + m)) : Nat)) (w.drew.putObj b (.cells (wrV L (off + (i + m) * 2) ((L.drop (off + i * 2)).take ((n - i) * 2))).toArray 71 fr)) := fun ty dc sc =>
    copy2 w.drew ty b (off + (i + m) * 2) _ dc ⟨b, off + i * 2, none⟩ _ sc _ L fr hb hf (by rw [hdl]; simp only [Nat.min_def]; split <;> omega) (by rw [hdl]; omega) (One_take _ (One_drop _ h1)) (fun e => by rw [e] at hdl; simp at hdl; omega)
      (fun j v hj => by
        rw [Addr.add_lit]
        have hb' : w.drew.heap[b]? = some (.cells L.toArray 71 fr) := hb
        rw [cell_at hb']
        have hjl : j < (n - i) * 2 := by rw [← hdl]; exact (List.getElem?_eq_some_iff.1 hj).1
        rw [List.getElem?_take_of_lt hjl, List.getElem?_drop] at hj
        simpa using hj)
  obtain ⟨L1, hL1⟩ : ∃ L1, L1 = wrV L (off + (i + m) * 2) ((L.drop (off + i * 2)).take ((n - i) * 2)) := ⟨_, rfl⟩
  have hL1l : L1.length = L.length := by rw [hL1, wrV_length]
  rw [← hL1] at hcp1 ⊢
  have hbl := block_lt hb
  have hcp2 : ∀ (W : World), (W = w.drew.putObj b (.cells L1.toArray 71 fr)) → ∀ ty dc, (Builtin.copy_ #[36, 36] ty #[.slice (some ⟨b, off + i * 2, none⟩) (n + m - i) dc, .slice (some ⟨vb, voff, none⟩) m vc]).run Tryz.prog W =
      .ok (goInt (min m (n + m - i) : Nat)) (W.putObj b (.cells (wrV L1 (off + i * 2) vs).toArray 71 fr)) := fun W hW ty dc => by
    subst hW
    refine copy2 _ ty b (off + i * 2) _ dc ⟨vb, voff, none⟩ _ vc vs L1 fr (putObj_get (by exact hbl)) (by rw [hL1l]; exact hf) (by rw [hvl]; simp only [Nat.min_def]; split <;> omega) (by rw [hvl, hL1l]; omega) h1v (fun e => by rw [e] at hvl; simp at hvl; omega) (fun j v hj => ?_)
    rw [Addr.add_lit]
    have : (w.drew.putObj b (.cells L1.toArray 71 fr)).cell? ⟨vb, voff + j, none⟩ = w.cell? ⟨vb, voff + j, none⟩ := by
      simp only [World.cell?]
      rw [World.putObj_heap_other hvb]
      rfl
    rw [this]; exact hvs j v hj
  go_enter fn110, nt110
  go_wp2_with (simp only [hov])
  go_region_law_o (refine step_copy_runI rfl _ _ 36 36 rfl _ _ (by simp [Act.eval, Act.put]) (by simp [Act.eval, Act.put]) (hcp1 _ _ _) ?_)
  go_wp2_with (at_builtin; refine wpList_copy_runI _ rfl _ _ 36 36 rfl _ _ rfl rfl (hcp2 _ rfl _ _) ?_)
  go_ret
  exact ⟨rfl, by rw [putObj_putObj, hL1]⟩
theorem push_set {α : Type} (a : Array α) (x y : α) : (a.push x).setIfInBounds a.size y = a.push y := by
  apply Array.ext'
  simp
def grown (cs vs : List Value) (w : World) (n i m c : Nat) : List Value :=
  wrV (wrV (cs.take (i * 2) ++ (Builtin.zeroCells #[.string ⟨#[]⟩, .int .i64 0] (n + m - i)).toList ++ (Builtin.zeroCells #[.string ⟨#[]⟩, .int .i64 0] (grownCap w (n + m) c 71 - (n + m))).toList) (i * 2) vs) ((i + m) * 2) (cs.drop (i * 2))
set_option maxHeartbeats 4000000 in
theorem walk110g (b off n c i vb voff m vc : Nat) (cs vs : List Value) (w : World) (hi : i < n) (hm : 0 < m) (hnc : n ≤ c) (hroom : c < n + m) (hbig : (n + m) * 24 ≤ 140737488355328)
    (hcl : cs.length = n * 2) (hvl : vs.length = m * 2) (h1 : One cs) (h1v : One vs)
    (hcs : ∀ j v, cs[j]? = some v → w.cell? ⟨b, off + j, none⟩ = some v) (hvs : ∀ j v, vs[j]? = some v → w.cell? ⟨vb, voff + j, none⟩ = some v) :
    Calls Tryz.prog 110 #[.slice (some ⟨b, off, none⟩) n c, .int .i64 i, .slice (some ⟨vb, voff, none⟩) m vc] w fun e w' =>
      e = .returned (.slice (some ⟨w.heap.size, 0, none⟩) (n + m) (grownCap w (n + m) c 71)) ∧ w'.heap = w.heap.push (.cells (grown cs vs w n i m c).toArray 71 (0, 0)) ∧ w'.os = w.os ∧ w'.tape = w.tape ∧ w'.output = w.output := by
  obtain ⟨i71, hi71, hsz71, hby71, hze71⟩ := in71
  have z71 : ∀ w, (Go.sizeOf 71).run Tryz.prog w = .ok 2 w := fun w => by rw [run_size hi71, hsz71]
  have u36 := fun w => run_underlying (w := w) ty36
  have u3 := fun w => run_underlying (w := w) ty3
  have u4 := fun w => run_underlying (w := w) ty4
  have mixed := mixed
  have hz1 : ¬ ((m : Int) = 0) := by omega
  have hz2 : ¬ ((i : Int) = (n : Int)) := by omega
  have hz3 : (c : Int) < (n : Int) + (m : Int) := by omega
  have hbw : b < w.heap.size := cell_lt (hcs 0 _ (List.getElem?_eq_getElem (by omega)))
  have hvw : vb < w.heap.size := cell_lt (hvs 0 _ (List.getElem?_eq_getElem (by omega)))
  have hkk : (n : Int) + (m : Int) - (i : Int) = ((n + m - i : Nat) : Int) := by omega
  have hik : i + (n + m - i) = n + m := by omega
  have htl : (cs.take (i * 2)).length = i * 2 := by rw [List.length_take]; omega
  have hold : (Builtin.firstCells i71.size i (.slice (some ⟨b, off, none⟩) i c)).run Tryz.prog w.drew = .ok (cs.take (i * 2)).toArray w.drew := by
    rw [hsz71]
    simp only [Builtin.firstCells]
    have := run_loadCells (P := Tryz.prog) (w := w.drew) (a := ⟨b, off, none⟩) (cs.take (i * 2)) (fun j hj => by
      rw [add_plain]
      rw [htl] at hj
      have h2 : (cs.take (i * 2))[j]? = cs[j]? := List.getElem?_take_of_lt hj
      have h3 : cs[j]? = some (cs.take (i * 2))[j] := by rw [← h2]; exact List.getElem?_eq_getElem _
      exact hcs j _ h3)
    rw [htl] at this
    exact this
  obtain ⟨G, hG⟩ : ∃ G, G = grownCap w (n + m) c 71 := ⟨_, rfl⟩
  obtain ⟨Z1, hZ1⟩ : ∃ Z1, Z1 = Builtin.zeroCells #[.string ⟨#[]⟩, .int .i64 0] (n + m - i) := ⟨_, rfl⟩
  obtain ⟨Z2, hZ2⟩ : ∃ Z2, Z2 = Builtin.zeroCells #[.string ⟨#[]⟩, .int .i64 0] (grownCap w (n + m) c 71 - (n + m)) := ⟨_, rfl⟩
  have hrz : ∀ ty, (Builtin.append_ #[36, 3] ty #[.slice (some ⟨b, off, none⟩) i c, .int .i64 ((n : Int) + (m : Int) - (i : Int))]).run Tryz.prog w =
      .ok (.slice (some ⟨w.heap.size, 0, none⟩) (n + m) (grownCap w (n + m) c 71)) (w.drew.alloc (.cells ((cs.take (i * 2)).toArray ++ Z1 ++ Z2) 71)) := fun ty => by
    have h := Lib.run_append_grow_zeros w 36 3 ty 71 i71 _ .i64 .i64 ty36 ty3 hi71 hze71 (some ⟨b, off, none⟩) i c (cs.take (i * 2)) hold (n + m - i) (by omega) (by omega) (by omega) (by omega) (by rw [hby71]; omega) (by rw [hby71, hik]; exact growslice_fits hroom hbig)
    rw [hik] at h
    rw [hkk, hZ1, hZ2]
    exact h
  obtain ⟨ROW, hROW⟩ : ∃ ROW : List Value, ROW = cs.take (i * 2) ++ Z1.toList ++ Z2.toList := ⟨_, rfl⟩
  have hRA : (cs.take (i * 2)).toArray ++ Z1 ++ Z2 = ROW.toArray := by rw [hROW]; apply Array.ext'; simp
  rw [hRA, ← hG] at hrz
  have hgr : grown cs vs w n i m c = wrV (wrV ROW (i * 2) vs) ((i + m) * 2) (cs.drop (i * 2)) := by unfold grown; rw [hROW, hZ1, hZ2]
  rw [hgr, ← hG]
  have hZ1l : Z1.size = (n + m - i) * 2 := by rw [hZ1, zeroCells_len]; rfl
  have hRl : (n + m) * 2 ≤ ROW.length := by
    rw [hROW, List.length_append, List.length_append, htl, Array.length_toList, hZ1l]; omega
  have hGn : n + m ≤ G := by rw [hG]; exact grownCap_ge w _ _ _
  have hG63 : G ≤ 9223372036854775807 := by
    have := grownCap_le_maxLen w (n + m) c 71 (by unfold maxLen; omega)
    rw [← hG] at this
    unfold maxLen at this
    omega
  have hal : (w.drew.alloc (.cells ROW.toArray 71)).heap = w.heap.push (.cells ROW.toArray 71 (0, 0)) := rfl
  have hsz0 : (w.drew.alloc (.cells ROW.toArray 71)).heap.size = w.heap.size + 1 := by rw [hal, Array.size_push]
  have hn0 : (w.drew.alloc (.cells ROW.toArray 71)).heap[w.heap.size]? = some (.cells ROW.toArray 71 (0, 0)) := by rw [hal]; simp
  have ho0 : ∀ q, q < w.heap.size → (w.drew.alloc (.cells ROW.toArray 71)).heap[q]? = w.heap[q]? := fun q hq => by rw [hal, Array.getElem?_push, if_neg (Nat.ne_of_lt hq)]
  have hu0 : ∀ k, unfrozen (0, 0) k := fun k o _ => by simp
  have hcpA : ∀ (W : World), W.heap = (w.drew.alloc (.cells ROW.toArray 71)).heap → ∀ ty dc, (Builtin.copy_ #[36, 36] ty #[.slice (some ⟨w.heap.size, i * 2, none⟩) (n + m - i) dc, .slice (some ⟨vb, voff, none⟩) m vc]).run Tryz.prog W =
      .ok (goInt (min m (n + m - i) : Nat)) (W.putObj w.heap.size (.cells (wrV ROW (i * 2) vs).toArray 71 (0, 0))) := fun W hW ty dc => by
    refine copy2 _ ty w.heap.size (i * 2) _ dc ⟨vb, voff, none⟩ _ vc vs ROW (0, 0) (by rw [hW]; exact hn0) (hu0 _) (by rw [hvl]; simp only [Nat.min_def]; split <;> omega) (by rw [hvl]; omega) h1v (fun e => by rw [e] at hvl; simp at hvl; omega) (fun j v hj => ?_)
    rw [Addr.add_lit]
    have : W.cell? ⟨vb, voff + j, none⟩ = w.cell? ⟨vb, voff + j, none⟩ := by
      simp only [World.cell?]
      rw [hW, ho0 vb hvw]
    rw [this]; exact hvs j v hj
  obtain ⟨R1, hR1⟩ : ∃ R1, R1 = wrV ROW (i * 2) vs := ⟨_, rfl⟩
  have hR1l : R1.length = ROW.length := by rw [hR1, wrV_length]
  rw [← hR1] at hcpA ⊢
  have hdl : (cs.drop (i * 2)).length = (n - i) * 2 := by rw [List.length_drop]; omega
  have hcpB : ∀ (W : World), W.heap = ((w.drew.alloc (.cells ROW.toArray 71)).putObj w.heap.size (.cells R1.toArray 71 (0, 0))).heap → ∀ ty dc sc, (Builtin.copy_ #[36, 36] ty #[.slice (some ⟨w.heap.size, (i + m) * 2, none⟩) (n + m - (i + m)) dc, .slice (some ⟨b, off + i * 2, none⟩) (n - i) sc]).run Tryz.prog W =
      .ok (goInt (min (n - i) (n + m - (i + m)) : Nat)) (W.putObj w.heap.size (.cells (wrV R1 ((i + m) * 2) (cs.drop (i * 2))).toArray 71 (0, 0))) := fun W hW ty dc sc => by
    refine copy2 _ ty w.heap.size ((i + m) * 2) _ dc ⟨b, off + i * 2, none⟩ _ sc _ R1 (0, 0) (by rw [hW]; exact putObj_get (by rw [hsz0]; omega)) (hu0 _) (by rw [hdl]; simp only [Nat.min_def]; split <;> omega) (by rw [hdl, hR1l]; omega) (One_drop _ h1) (fun e => by rw [e] at hdl; simp at hdl; omega) (fun j v hj => ?_)
    rw [Addr.add_lit]
    have : W.cell? ⟨b, off + i * 2 + j, none⟩ = w.cell? ⟨b, off + i * 2 + j, none⟩ := by
      simp only [World.cell?]
      rw [hW, World.putObj_heap_other (by omega), ho0 b hbw]
    rw [this, Nat.add_assoc]
    rw [List.getElem?_drop] at hj
    exact hcs _ v hj
  have hGi : ¬ (G = i) := by omega
  have hGim : ¬ (G = i + m) := by omega
  have hci : ¬ (c = i) := by omega
  have hw1 : IntKind.i64.wrap ((i : Int) + (m : Int)) = (i : Int) + (m : Int) := by rw [IntKind.wrap_i64]; omega
  have hb1 : (0 : Int) ≤ (i : Int) + (m : Int) := by omega
  have hin : i ≤ n := by omega
  have htn : ((i : Int) + (m : Int)).toNat = i + m := by omega
  have hb3 : (i : Int) ≤ (n : Int) := by omega
  clear hkk hik hold hROW hG hRl hgr hRA hZ1 hZ2 hZ1l hze71 hby71
  go_enter fn110, nt110
  go_wp2_with (first
    | (at_builtin; refine Lib.wpList_append_run _ rfl _ _ _ _ rfl _ _ rfl rfl _ _ (hrz _) ?_)
    | (at_builtin; refine wpList_copy_runI _ rfl _ _ 36 36 rfl _ _ rfl rfl (hcpA ((w.alloc (.cells ROW.toArray 71)).drew) rfl _ _) ?_)
    | (at_builtin; refine wpList_copy_runI _ rfl _ _ 36 36 rfl _ _ rfl rfl (hcpB (((w.alloc (.cells ROW.toArray 71)).drew.putObj w.heap.size (.cells R1.toArray 71 (0, 0))).drew) rfl _ _ _) ?_))
  rw [hcpA ((w.alloc (.cells ROW.toArray 71)).drew) rfl]
  simp only [Result.andThen]
  rw [Oper.upon_value]
  go_wp2
  go_region_law_o (refine step_copy_runI rfl _ _ 36 36 rfl (.slice (some ⟨w.heap.size, (i + m) * 2, none⟩) (n + m - (i + m)) (G - (i + m))) (.slice (some ⟨b, off + i * 2, none⟩) (n - i) (c - i)) (by simp [Act.eval, Act.put]) (by simp [Act.eval, Act.put]) (hcpB (((w.alloc (.cells ROW.toArray 71)).drew.putObj w.heap.size (.cells R1.toArray 71 (0, 0))).drew) rfl 3 (G - (i + m)) (c - i)) ?_)
  go_wp2
  go_ret
  refine ⟨rfl, ?_, rfl, rfl, rfl⟩
  show ((w.heap.push _).setIfInBounds w.heap.size _).setIfInBounds w.heap.size _ = _
  rw [push_set, push_set, hR1]
end
end Go.Mm
end
