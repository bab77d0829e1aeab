/- A part of the proof of FilesFitCardSaid: X7. -/
import Derived.Test.YtamefnngdhbjiaaGreatDoorFitC3
import Derived.Test.YtamefnngdhbjiaaGreatDoorFitC4
import Derived.Test.YtamefnngdhbjiaaGreatDoorFitB5
set_option linter.all false
section
namespace Go.Mm
open Go.Proofs
variable [Globs]
set_option maxRecDepth 100000
section
theorem wrV_eq : ∀ (ds cs : List Value) (o : Nat), o + ds.length ≤ cs.length → wrV cs o ds = cs.take o ++ ds ++ cs.drop (o + ds.length)
  | [], cs, o, h => by simp [wrV]
  | d :: ds, cs, o, h => by
    simp only [List.length_cons] at h
    rw [wrV, wrV_eq ds (cs.set o d) (o + 1) (by simp; omega)]
    have h1 : (cs.set o d).take (o + 1) = cs.take o ++ [d] := by
      rw [List.take_succ_eq_append_getElem (by simp; omega)]
      simp only [List.take_set, List.getElem_set_self]
      rw [List.set_eq_of_length_le (by rw [List.length_take]; omega)]
    have h2 : (cs.set o d).drop (o + 1 + ds.length) = cs.drop (o + (d :: ds).length) := by
      rw [List.drop_set]
      rw [if_pos (by omega)]
      congr 1
      simp only [List.length_cons]; omega
    rw [h1, h2]
    simp
theorem ins_shift (vs0 cs vs2 vs : List Value) (n i : Nat) (hn : n * 2 ≤ cs.length) (hi : i < n) (hv : vs.length = 2) (hroom : vs0.length + (n + 1) * 2 ≤ (vs0 ++ (cs ++ vs2)).length) :
    wrV (wrV (vs0 ++ (cs ++ vs2)) (vs0.length + (i + 1) * 2) (((vs0 ++ (cs ++ vs2)).drop (vs0.length + i * 2)).take ((n - i) * 2))) (vs0.length + i * 2) vs =
      vs0 ++ ((cs.take (i * 2) ++ vs ++ (cs.take (n * 2)).drop (i * 2)) ++ (cs ++ vs2).drop ((n + 1) * 2)) := by
  have hX : ((vs0 ++ (cs ++ vs2)).drop (vs0.length + i * 2)).take ((n - i) * 2) = (cs.take (n * 2)).drop (i * 2) := by
    rw [← List.drop_drop, List.drop_left, List.drop_append_of_le_length (by omega), List.take_append_of_le_length (by rw [List.length_drop]; omega), List.drop_take]
    congr 1; omega
  rw [hX]
  generalize hXe : (cs.take (n * 2)).drop (i * 2) = X
  have hXl : X.length = (n - i) * 2 := by rw [← hXe, List.length_drop, List.length_take]; omega
  rw [wrV_pre, wrV_pre]
  congr 1
  simp only [List.length_append] at hroom
  rw [wrV_eq X _ _ (by rw [List.length_append]; omega), wrV_eq vs _ _ (by simp only [List.length_append, List.length_take, List.length_drop]; omega)]
  have e1 : (i + 1) * 2 + X.length = (n + 1) * 2 := by omega
  have hT : ((cs ++ vs2).take ((i + 1) * 2)).length = (i + 1) * 2 := by rw [List.length_take, List.length_append]; omega
  rw [e1, hv, List.append_assoc ((cs ++ vs2).take ((i + 1) * 2)), List.take_append_of_le_length (by rw [hT]; omega), List.take_take, List.drop_left' (by rw [hT]; omega)]
  rw [show min (i * 2) ((i + 1) * 2) = i * 2 by omega, List.take_append_of_le_length (by omega)]
  simp
theorem ins_grow (cs Z1 Z2 vs : List Value) (n i : Nat) (hn : cs.length = n * 2) (hi : i < n) (hv : vs.length = 2) (hZ : Z1.length = (n + 1 - i) * 2) :
    wrV (wrV (cs.take (i * 2) ++ Z1 ++ Z2) (i * 2) vs) ((i + 1) * 2) (cs.drop (i * 2)) = (cs.take (i * 2) ++ vs ++ cs.drop (i * 2)) ++ Z2 := by
  have hT : (cs.take (i * 2)).length = i * 2 := by rw [List.length_take]; omega
  have hD : (cs.drop (i * 2)).length = (n - i) * 2 := by rw [List.length_drop]; omega
  rw [wrV_eq vs _ _ (by simp only [List.length_append]; omega), wrV_eq (cs.drop (i * 2)) _ _ (by simp only [List.length_append, List.length_take, List.length_drop]; omega)]
  rw [List.append_assoc (cs.take (i * 2)), List.take_left' hT, hv, hD]
  have e2 : (cs.take (i * 2) ++ (Z1 ++ Z2)).drop (i * 2 + 2) = (Z1 ++ Z2).drop 2 := by
    rw [← List.drop_drop, List.drop_left' hT]
  rw [e2]
  have hTv : (cs.take (i * 2) ++ vs).length = (i + 1) * 2 := by rw [List.length_append]; omega
  rw [List.take_left' hTv, ← List.drop_drop, List.drop_left' hTv, List.drop_drop, show 2 + (n - i) * 2 = Z1.length by omega, List.drop_left]
theorem same_ext {S : Real} {st : Store} (h : SR S st) {w : World} (hw : w.heap = S.w.heap) (h1 : w.os = S.w.os) (h2 : w.tape = S.w.tape) (h3 : w.output = S.w.output) : Ext S (S.at w) where
  size := by simp only [Real.at, hw]; exact Nat.le_refl _
  n := Nat.le_refl _
  keep b hb hn := by simp only [Real.at, hw]
  hot1 b hb h := h
  hot2 b h _ := h
  live i l' hi hl' := ⟨l', hl', .inl rfl⟩
  new i l' hi hl' := by rw [show (S.at w).bl = S.bl from rfl, h.out i hi] at hl'; cases hl'
  os := h1
  tape := h2
  output := h3
  hlt := h.hlt
theorem same_SR {S : Real} {st : Store} (h : SR S st) {w : World} (hw : w.heap = S.w.heap) (h1 : w.os = S.w.os) (h2 : w.tape = S.w.tape) (h3 : w.output = S.w.output) : SR (S.at w) st where
  glob := GR_mono (same_ext h hw h1 h2 h3).w h.glob
  len := h.len
  blk i b hi := RB_mono (same_ext h hw h1 h2 h3) rfl (fun m hm => ⟨by simp only [Real.at, hw], Iff.rfl⟩) (h.blk i b hi)
  out := h.out
  inj := h.inj
  lt i m hm := by simp only [Real.at, hw]; exact h.lt i m hm
  hlt b hb := by simp only [Real.at, hw]; exact h.hlt b hb
set_option maxHeartbeats 4000000 in
theorem c110 {args : List D} {st st' : Store} {d : D} (h : x110 args st = some (d, st')) : CallS Tryz.prog 110 args st d st' := by
  unfold x110 at h
  split at h
  · rename_i s i vid vver
    split at h
    · rename_i vv a b hv
      split at h
      · rename_i hvv
        subst hvv
        split at h
        · split at h
          · rename_i hi0
            subst hi0
            injection h with h; injection h with e1 e2; subst e1; subst e2
            obtain ⟨k, hk⟩ := nil110 (d := .nils) rfl hv
            exact (main mixed funcsOk (bareC (C := C3) fun _ => rfl) k).2.2.2.2 _ _ _ _ _ hk
          · cases h
        · rename_i id ver n
          split at h
          · cases h
          · rename_i hne
            split at h
            · rename_i v cs hb
              split at h
              · rename_i hc
                obtain ⟨rfl, hi0, hin, hnc, hn4⟩ := hc
                obtain ⟨j, rfl⟩ := Int.eq_ofNat_of_zero_le hi0
                have hjn : j ≤ n := by omega
                rw [Int.toNat_natCast] at h
                by_cases hend : j = n
                · subst hend
                  injection h with h; injection h with e1 e2; subst e1; subst e2
                  obtain ⟨k, hk⟩ := end110 (ver := v) hv hb hnc hn4
                  have e3 : (cs.take (j * 2)).drop (j * 2) = [] := List.drop_of_length_le (by rw [List.length_take]; omega)
                  rw [e3, List.append_nil]
                  exact (main mixed funcsOk (bareC (C := C3) fun _ => rfl) k).2.2.2.2 _ _ _ _ _ hk
                · have hlt : j < n := by omega
                  injection h with h; injection h with e1 e2; subst e1; subst e2
                  intro S vs hS hr
                  simp only [RL, R] at hr
                  obtain ⟨_, _, rfl, ⟨q, cap, rfl, hcap, hid, hloc⟩, _, _, rfl, rfl, _, _, rfl, ⟨q2, cap2, rfl, hcap2, hid2, hloc2⟩, rfl⟩ := hr
                  obtain ⟨l, vs0, vs1, vs2, fr, k1, k2, k3, k4, k5, k6, k0, k7, k8⟩ := block_of hS hb
                  obtain ⟨m, us0, us1, us2, fr2, j1, j2, j3, j4, j5, j6, j0, j7, j8⟩ := block_of hS hv
                  obtain ⟨hh, hu⟩ := k8 rfl
                  obtain ⟨hh2, hu2⟩ := j8 rfl
                  rcases (hloc l k1).2 k2.symm with ⟨z1, z2, z3⟩ | ⟨rfl, hcs⟩
                  · omega
                  rcases (hloc2 m j1).2 j2.symm with ⟨z1, z2, z3⟩ | ⟨rfl, hcs2⟩
                  · omega
                  have hvl := RL_length k5
                  have hul := RL_length j5
                  have hu2l : us1.length = 2 := hul.symm
                  have hbn : m.b ≠ l.b := fun e => hne (hS.inj vid id m l j1 k1 e).symm
                  have hvals : ∀ x y, us1[x]? = some y → S.w.cell? ⟨m.b, m.base + 0 + x, none⟩ = some y := by
                    intro x y hx
                    have hxl := (List.getElem?_eq_some_iff.1 hx).1
                    rw [cell_at j3]
                    simp only [List.getElem?_toArray]
                    rw [List.getElem?_append_right (by omega), List.getElem?_append_left (by omega), ← hx]
                    congr 1; omega
                  have hO1 := (One_append.1 (One_append.1 k6).2).1
                  have hO2 := (One_append.1 (One_append.1 j6).2).1
                  by_cases hroom : n + 1 ≤ cap
                  ·
                    have hb0 : l.base + 0 = vs0.length := by omega
                    have hroom2 : vs0.length + (n + 1) * 2 ≤ (vs0 ++ (vs1 ++ vs2)).length := by omega
                    have W := walk110s l.b (l.base + 0) n cap j m.b (m.base + 0) 1 cap2 us1 (vs0 ++ (vs1 ++ vs2)) fr S.w hlt (by omega) hroom (by omega) hbn k3 (by rw [k4]; exact hu) (by rw [hb0]; exact hroom2) (by omega) k6 hO2 hvals
                      (us0 ++ (us1 ++ us2)).length (by simp only [World.shape?, j3, List.size_toArray]) (by simp only [World.frozen?, j3]; exact hu2 _ (by omega)) (by simp only [World.frozen?, j3]; exact hu2 _ (by omega))
                    rw [hb0, ins_shift vs0 vs1 vs2 us1 n j (by omega) hlt hu2l hroom2] at W
                    rw [hb0]
                    refine CallOk.walk fn110 (by kernel_rfl) (by kernel_rfl) W ?_
                    rintro e w' ⟨rfl, rfl⟩
                    have hS1 := drew_SR hS
                    have hE := bumped_ext hS1 (id := id) (l := l) k1 k7 hh hid (ver := v + 1) (by omega) (.cells (vs0 ++ ((vs1.take (j * 2) ++ us1 ++ (vs1.take (n * 2)).drop (j * 2)) ++ (vs1 ++ vs2).drop ((n + 1) * 2))).toArray 71 fr) l.base
                    refine ⟨_, S.drew.bumped id l (v + 1) (.cells (vs0 ++ ((vs1.take (j * 2) ++ us1 ++ (vs1.take (n * 2)).drop (j * 2)) ++ (vs1 ++ vs2).drop ((n + 1) * 2))).toArray 71 fr) l.base, rfl, rfl, bumped_SR hS1 k1 k7 hh hid (by omega) _ _ _ ?_, (drew_ext hS).trans hE, ?_⟩
                    · simp only [RB]
                      refine ⟨⟨v + 1, l.b, l.sz, true, l.base, by intro h; omega⟩, vs0, vs1.take (j * 2) ++ us1 ++ (vs1.take (n * 2)).drop (j * 2), (vs1 ++ vs2).drop ((n + 1) * 2), fr, by simp [Real.bumped, setf], rfl, ?_, ?_, ?_, ?_, k0, rfl, fun _ => ⟨hh, hu⟩⟩
                      · exact putObj_get (block_lt k3)
                      · simp only [List.length_append, List.length_take, List.length_drop] at k4 hroom2 ⊢
                        omega
                      · refine RL_mono ((drew_ext hS).trans hE) _ _ (RL_append (RL_append (RL_take _ k5) j5) (RL_drop _ (RL_take _ k5)))
                      · exact One_append.2 ⟨(One_append.1 k6).1, One_append.2 ⟨One_append.2 ⟨One_append.2 ⟨One_take _ hO1, hO2⟩, One_drop _ (One_take _ hO1)⟩, One_drop _ (One_append.1 k6).2⟩⟩
                    · simp only [R]
                      refine ⟨_, cap, rfl, hroom, hid, fun m' hm => ?_⟩
                      simp only [Real.bumped, setf, if_true] at hm
                      injection hm with hm; subst hm
                      exact ⟨Nat.le_refl _, fun _ => .inr ⟨by rw [hb0, k0], by simpa using hcs⟩⟩
                  ·
                    have htl : (vs1.take (n * 2)).length = n * 2 := by rw [List.length_take]; omega
                    have hcells : ∀ x y, (vs1.take (n * 2))[x]? = some y → S.w.cell? ⟨l.b, l.base + 0 + x, none⟩ = some y := by
                      intro x y hx
                      have hxl := (List.getElem?_eq_some_iff.1 hx).1
                      rw [htl] at hxl
                      rw [List.getElem?_take_of_lt hxl] at hx
                      rw [cell_at k3]
                      simp only [List.getElem?_toArray]
                      rw [List.getElem?_append_right (by omega), List.getElem?_append_left (by omega), ← hx]
                      congr 1; omega
                    have W := walk110g l.b (l.base + 0) n cap j m.b (m.base + 0) 1 cap2 (vs1.take (n * 2)) us1 S.w hlt (by omega) hcap (by omega) (by omega) htl (by omega) (One_take _ hO1) hO2 hcells hvals
                    have hZ1 : (Builtin.zeroCells #[Value.string ⟨#[]⟩, .int .i64 0] (n + 1 - j)).toList.length = (n + 1 - j) * 2 := by rw [Array.length_toList, zeroCells_len]; rfl
                    have hgr : grown (vs1.take (n * 2)) us1 S.w n j 1 cap = ((vs1.take (n * 2)).take (j * 2) ++ us1 ++ (vs1.take (n * 2)).drop (j * 2)) ++ (Builtin.zeroCells #[Value.string ⟨#[]⟩, .int .i64 0] (grownCap S.w (n + 1) cap 71 - (n + 1))).toList := by
                      unfold grown
                      exact ins_grow _ _ _ us1 n j htl hlt hu2l hZ1
                    rw [hgr] at W
                    have hZ2 : (Builtin.zeroCells #[Value.string ⟨#[]⟩, .int .i64 0] (grownCap S.w (n + 1) cap 71 - (n + 1))).toList.length = (grownCap S.w (n + 1) cap 71 - (n + 1)) * 2 := by rw [Array.length_toList, zeroCells_len]; rfl
                    have hZo : One (Builtin.zeroCells #[Value.string ⟨#[]⟩, .int .i64 0] (grownCap S.w (n + 1) cap 71 - (n + 1))).toList := zeroCells_one (fun v hv => by simp at hv; rcases hv with rfl | rfl <;> rfl) _
                    have hge := grownCap_ge S.w (n + 1) cap 71
                    generalize (Builtin.zeroCells #[Value.string ⟨#[]⟩, .int .i64 0] (grownCap S.w (n + 1) cap 71 - (n + 1))).toList = Z2 at *
                    generalize grownCap S.w (n + 1) cap 71 = G at *
                    rw [List.take_take, show min (j * 2) (n * 2) = j * 2 by omega] at W
                    refine CallOk.walk fn110 (by kernel_rfl) (by kernel_rfl) W ?_
                    rintro e w' ⟨rfl, hw, h1, h2, h3⟩
                    have hS1 := same_SR hS (w := { w' with heap := S.w.heap }) rfl h1 h2 h3
                    have hE1 := same_ext hS (w := { w' with heap := S.w.heap }) rfl h1 h2 h3
                    have hE := moved_ext hS1 (id := id) (l := l) k1 k7 hid (ver := v + 1) (by omega) (.cells ((vs1.take (j * 2) ++ us1 ++ (vs1.take (n * 2)).drop (j * 2)) ++ Z2).toArray 71) ((vs1.take (j * 2) ++ us1 ++ (vs1.take (n * 2)).drop (j * 2)) ++ Z2).length
                    have hlen : ((vs1.take (j * 2) ++ us1 ++ (vs1.take (n * 2)).drop (j * 2)) ++ Z2).length = G * 2 := by
                      simp only [List.length_append, List.length_take, List.length_drop]; omega
                    refine ⟨_, (S.at { w' with heap := S.w.heap }).moved id (v + 1) (.cells ((vs1.take (j * 2) ++ us1 ++ (vs1.take (n * 2)).drop (j * 2)) ++ Z2).toArray 71) ((vs1.take (j * 2) ++ us1 ++ (vs1.take (n * 2)).drop (j * 2)) ++ Z2).length, rfl, ?_, moved_SR hS1 k1 k7 hid (by omega) _ _ _ ?_, hE1.trans hE, ?_⟩
                    · cases w'
                      simp only at hw
                      subst hw
                      rfl
                    · simp only [RB]
                      refine ⟨⟨v + 1, S.w.heap.size, _, true, 0, fun _ => rfl⟩, [], vs1.take (j * 2) ++ us1 ++ (vs1.take (n * 2)).drop (j * 2), Z2, (0, 0), by simp [Real.moved, Real.at, setf], rfl, alloc_new _ _, rfl, ?_, ?_, rfl, rfl, fun _ => ⟨.inr rfl, fun o _ => by simp⟩⟩
                      · exact RL_mono (hE1.trans hE) _ _ (RL_append (RL_append (RL_take _ k5) j5) (RL_drop _ (RL_take _ k5)))
                      · exact One_append.2 ⟨(fun v hv => absurd hv (by simp) : One []), One_append.2 ⟨One_append.2 ⟨One_append.2 ⟨One_take _ hO1, hO2⟩, One_drop _ (One_take _ hO1)⟩, hZo⟩⟩
                    · simp only [R]
                      refine ⟨_, G, rfl, hge, hid, fun m' hm => ?_⟩
                      simp only [Real.moved, setf, if_true] at hm
                      injection hm with hm; subst hm
                      exact ⟨Nat.le_refl _, fun _ => .inr ⟨rfl, by simp only [Nat.zero_add]; exact Nat.le_of_eq hlen.symm⟩⟩
              · cases h
            · cases h
        · cases h
      · cases h
    · cases h
  · cases h
end
end Go.Mm
end
