/- A part of the proof of FilesFitCardSaid: X4. -/
import Derived.Test.YtamefnngdhbjiaaGreatDoorFitC1
import Derived.Shelf.Sort.Plain
import Derived.Shelf.Slices.In.SortNone
set_option linter.all false
section
namespace Go.Proofs
open Go.Shelf
def Tryz.lays190_ren : Go.Shelf.Ren := ⟨fun | 190 => 38 | 125 => 57 | 258 => 56 | 128 => 94 | 129 => 95 | 302 => 85 | 303 => 86 | 304 => 87 | 305 => 88 | 306 => 89 | 307 => 90 | 308 => 91 | 309 => 92 | 310 => 93 | 333 => 130 | 329 => 131 | 330 => 132 | 334 => 133 | 335 => 134 | 336 => 135 | 344 => 158 | n => n, fun | 31 => 25 | 9 => 9 | 3 => 3 | 46 => 93 | 0 => 0 | 51 => 123 | 53 => 125 | 4 => 4 | 183 => 116 | 182 => 115 | 131 => 94 | 5 => 5 | 218 => 150 | 222 => 154 | 228 => 177 | 229 => 34 | n => n, fun | n => n⟩
theorem Tryz.lays190 : Go.Proofs.Lays.n190 Tryz.prog Tryz.lays190_ren := {
  mixed := by kernel_rfl
  f125 := Tryz.func57.trans (congrArg some (by kernel_rfl))
  f128 := Tryz.func94.trans (congrArg some (by kernel_rfl))
  f129 := Tryz.func95.trans (congrArg some (by kernel_rfl))
  f190 := Tryz.func38.trans (congrArg some (by kernel_rfl))
  f258 := Tryz.func56.trans (congrArg some (by kernel_rfl))
  f302 := Tryz.func85.trans (congrArg some (by kernel_rfl))
  f303 := Tryz.func86.trans (congrArg some (by kernel_rfl))
  f304 := Tryz.func87.trans (congrArg some (by kernel_rfl))
  f305 := Tryz.func88.trans (congrArg some (by kernel_rfl))
  f306 := Tryz.func89.trans (congrArg some (by kernel_rfl))
  f307 := Tryz.func90.trans (congrArg some (by kernel_rfl))
  f308 := Tryz.func91.trans (congrArg some (by kernel_rfl))
  f309 := Tryz.func92.trans (congrArg some (by kernel_rfl))
  f310 := Tryz.func93.trans (congrArg some (by kernel_rfl))
  f329 := Tryz.func131.trans (congrArg some (by kernel_rfl))
  f330 := Tryz.func132.trans (congrArg some (by kernel_rfl))
  f333 := Tryz.func130.trans (congrArg some (by kernel_rfl))
  f334 := Tryz.func133.trans (congrArg some (by kernel_rfl))
  f335 := Tryz.func134.trans (congrArg some (by kernel_rfl))
  f336 := Tryz.func135.trans (congrArg some (by kernel_rfl))
  f344 := Tryz.func158.trans (congrArg some (by kernel_rfl))
  t0 := Tryz.underlying0
  a0 := Tryz.isAgg0
  z0 := Tryz.sizeOf0
  v0 := Tryz.zeroValue0
  t3 := Tryz.underlying3
  a3 := Tryz.isAgg3
  z3 := Tryz.sizeOf3
  v3 := Tryz.zeroValue3
  t4 := Tryz.underlying4
  a4 := Tryz.isAgg4
  z4 := Tryz.sizeOf4
  v4 := Tryz.zeroValue4
  t5 := Tryz.underlying5
  a5 := Tryz.isAgg5
  z5 := Tryz.sizeOf5
  v5 := Tryz.zeroValue5
  t9 := Tryz.underlying9
  a9 := Tryz.isAgg9
  z9 := Tryz.sizeOf9
  v9 := Tryz.zeroValue9
  t31 := Tryz.underlying25
  a31 := Tryz.isAgg25
  z31 := Tryz.sizeOf25
  v31 := Tryz.zeroValue25
  t46 := Tryz.underlying93
  a46 := Tryz.isAgg93
  z46 := Tryz.sizeOf93
  v46 := Tryz.zeroValue93
  t51 := Tryz.underlying123
  a51 := Tryz.isAgg123
  z51 := Tryz.sizeOf123
  v51 := Tryz.zeroValue123
  t53 := Tryz.underlying125
  a53 := Tryz.isAgg125
  z53 := Tryz.sizeOf125
  v53 := Tryz.zeroValue125
  t131 := Tryz.underlying94
  a131 := Tryz.isAgg94
  z131 := Tryz.sizeOf94
  v131 := Tryz.zeroValue94
  t182 := Tryz.underlying115
  a182 := Tryz.isAgg115
  z182 := Tryz.sizeOf115
  v182 := Tryz.zeroValue115
  t183 := Tryz.underlying116
  a183 := Tryz.isAgg116
  z183 := Tryz.sizeOf116
  v183 := Tryz.zeroValue116
  t218 := Tryz.underlying150
  a218 := Tryz.isAgg150
  z218 := Tryz.sizeOf150
  v218 := Tryz.zeroValue150
  t222 := Tryz.underlying154
  a222 := Tryz.isAgg154
  z222 := Tryz.sizeOf154
  v222 := Tryz.zeroValue154
  t228 := Tryz.underlying177
  a228 := Tryz.isAgg177
  z228 := Tryz.sizeOf177
  v228 := Tryz.zeroValue177
  t229 := Tryz.underlying34
  a229 := Tryz.isAgg34
  z229 := Tryz.sizeOf34
  v229 := Tryz.zeroValue34 }
end Go.Proofs
namespace Go.Mm
open Go.Proofs
variable [Globs]
set_option maxRecDepth 100000
def Real.at (S : Real) (w : World) : Real := { S with w := w }
theorem at_ext {S : Real} {st : Store} (h : SR S st) {id : Nat} {l : Loc} (hl : S.bl id = some l) (hw : l.rw = true) (hh : S.hot l.b) {w : World} (hsz : S.w.heap.size ≤ w.heap.size)
    (hk : ∀ b, b < S.w.heap.size → b ≠ l.b → w.heap[b]? = S.w.heap[b]?) (h1 : w.os = S.w.os) (h2 : w.tape = S.w.tape) (h3 : w.output = S.w.output) : Ext S (S.at w) where
  size := hsz
  n := Nat.le_refl _
  keep b hb hn := hk b hb (fun e => by subst e; exact hn ⟨hh, id, l, hl, rfl, hw⟩)
  hot1 b hb h := h
  hot2 b h _ := h
  live i l' hi hl' := ⟨l', hl', .inl rfl⟩
  new i l' hi hl' := by rw [show (S.at w).bl = S.bl from rfl, h.out i hi] at hl'; cases hl'
  os := h1
  tape := h2
  output := h3
  hlt := h.hlt
theorem at_SR {S : Real} {st : Store} (h : SR S st) {id : Nat} {l : Loc} (hl : S.bl id = some l) (hw : l.rw = true) (hh : S.hot l.b) {w : World} (hsz : S.w.heap.size ≤ w.heap.size)
    (hk : ∀ b, b < S.w.heap.size → b ≠ l.b → w.heap[b]? = S.w.heap[b]?) (h1 : w.os = S.w.os) (h2 : w.tape = S.w.tape) (h3 : w.output = S.w.output) {blk : Blk} (hid : id < st.length) (hb : RB (S.at w) id blk) : SR (S.at w) (st.set id blk) where
  glob := GR_mono (at_ext h hl hw hh hsz hk h1 h2 h3).w h.glob
  len := by simp [Real.at, h.len]
  blk i b hi := by
    rw [List.getElem?_set] at hi
    by_cases e : id = i
    · subst e
      simp [hid] at hi
      subst hi
      exact hb
    · simp only [e, if_false] at hi
      refine RB_mono (at_ext h hl hw hh hsz hk h1 h2 h3) rfl (fun m hm => ⟨?_, Iff.rfl⟩) (h.blk i b hi)
      exact hk _ (h.lt i m hm) (fun he => e ((h.inj i id m l hm hl he).symm))
  out := h.out
  inj := h.inj
  lt i m hm := Nat.lt_of_lt_of_le (h.lt i m hm) hsz
  hlt b hb := Nat.lt_of_lt_of_le (h.hlt b hb) hsz
theorem putCells_mid {α : Type} [Inhabited α] (enc : α → Value) (d : List α) (a b c : List Value) (hl : d.length = b.length) :
    Sort.putCells enc a.length d.toArray (a ++ (b ++ c)).toArray = (a ++ (d.map enc ++ c)).toArray := by
  apply Array.ext_getElem?
  intro k
  simp only [Sort.putCells, Array.getElem?_mapIdx, List.getElem?_toArray, List.size_toArray]
  by_cases h1 : k < a.length
  · rw [List.getElem?_append_left h1, List.getElem?_append_left h1]
    rw [List.getElem?_eq_getElem h1]
    simp only [Option.map_some]
    rw [if_neg (by omega)]
  · rw [List.getElem?_append_right (l₁ := a) (l₂ := b ++ c) (by omega), List.getElem?_append_right (l₁ := a) (l₂ := List.map enc d ++ c) (by omega)]
    by_cases h2 : k - a.length < b.length
    · rw [List.getElem?_append_left h2, List.getElem?_append_left (l₁ := List.map enc d) (by simpa [hl] using h2), List.getElem?_eq_getElem h2, List.getElem?_map, List.getElem?_eq_getElem (l := d) (by omega)]
      simp only [Option.map_some]
      rw [if_pos (by omega)]
      rw [getElem!_pos _ _ (by simp; omega)]
      simp
    · rw [List.getElem?_append_right (l₁ := b) (by omega), List.getElem?_append_right (l₁ := List.map enc d) (by simpa [hl] using h2), List.length_map, hl]
      cases hx : c[k - a.length - b.length]? with
      | none => rfl
      | some v =>
        simp only [Option.map_some]
        rw [if_neg (by omega)]
theorem strs_vals {S : Real} : ∀ {cs : List D} {l : List ByteArray} {vs : List Value}, strsOf cs = some l → RL S cs vs → vs = l.map Value.string ∧ cs.length = l.length
  | [], l, vs, h, hr => by simp only [strsOf] at h; injection h with h; subst h; simp only [RL] at hr; subst hr; exact ⟨rfl, rfl⟩
  | c :: cs, l, vs, h, hr => by
    simp only [RL] at hr
    obtain ⟨v, vs', rfl, hc, hr'⟩ := hr
    unfold strsOf at h
    split at h
    · cases ‹_ :: _ = []›
    · rename_i s ds heq
      injection heq with e1 e2; subst e1; subst e2
      split at h
      · rename_i l' hl'
        injection h with h; subst h
        obtain ⟨rfl, h2⟩ := strs_vals hl' hr'
        simp only [R] at hc; subst hc
        exact ⟨rfl, by simp [h2]⟩
      · cases h
    · cases h
theorem fn38 : Tryz.prog.funcs[38]? = some Tryz.f38 := by kernel_rfl
theorem RL_strs {S : Real} : ∀ (l : List ByteArray), RL S (l.map .str) (l.map Value.string)
  | [] => rfl
  | s :: l => by simp only [List.map_cons, RL]; exact ⟨_, _, rfl, rfl, RL_strs l⟩
theorem c38 {args : List D} {st st' : Store} {d : D} (h : x38 args st = some (d, st')) : CallS Tryz.prog 38 args st d st' := by
  unfold x38 at h
  split at h
  · injection h with h; injection h with e1 e2; subst e1; subst e2
    intro S vs hS hr
    simp only [RL, R] at hr
    obtain ⟨_, _, rfl, rfl, rfl⟩ := hr
    refine CallOk.walk fn38 (by kernel_rfl) (by kernel_rfl) (Any.slices_Sort_string_none Tryz.lays190 none 0 S.w) ?_
    rintro e w' ⟨rfl, rfl⟩
    exact ⟨_, S, rfl, rfl, hS, hS.refl, undef_R0 _⟩
  · rename_i id ver n
    split at h
    · rename_i v ty cs hb
      split at h
      · rename_i hc
        obtain ⟨rfl, hcl, hn1, hn2⟩ := hc
        split at h
        · rename_i l hl
          injection h with h; injection h with e1 e2; subst e1; subst e2
          intro S vs hS hr
          simp only [RL, R] at hr
          obtain ⟨_, _, rfl, ⟨a, cap, rfl, hcap, hid, hloc⟩, rfl⟩ := hr
          obtain ⟨m, vs0, vs1, vs2, fr, k1, k2, k3, k4, k5, k6, k0, k7, k8⟩ := block_of hS hb
          obtain ⟨hh, hu⟩ := k8 rfl
          have hloc := (hloc m k1).2 k2.symm
          rcases hloc with ⟨q1, _⟩ | ⟨rfl, hcs⟩
          · omega
          obtain ⟨hvs, hlen⟩ := strs_vals hl k5
          have hln : l.length = n := by omega
          subst hln
          have hvl : vs1.length = l.length := by rw [hvs]; simp
          have hH : Sort.Holds encStr S.w m.b (m.base + 0) (l.map fun s => s.data.toList).toArray := by
            intro j hj
            simp only [List.size_toArray, List.length_map] at hj
            constructor
            · rw [cell_at k3]
              simp only [List.getElem?_toArray]
              rw [List.getElem?_append_right (by omega), List.getElem?_append_left (by omega)]
              rw [show m.base + 0 + j - vs0.length = j by omega, hvs, List.getElem?_map, List.getElem?_eq_getElem hj]
              simp [encStr, hj]
            · simp only [World.frozen?, k3]
              refine hu _ ?_
              rw [← k4]
              simp only [List.length_append]; omega
          have W := Any.slices_Sort_string Tryz.lays190 m.b (m.base + 0) cap (l.map fun s => s.data.toList) S.w hH (block_lt k3) (by simpa using hn2)
          rw [List.length_map] at W
          refine CallOk.walk fn38 (by kernel_rfl) (by kernel_rfl) W ?_
          rintro e w' ⟨rfl, q, os, rfl⟩
          generalize hso : ((l.map fun s => s.data.toList).mergeSort fun x y => decide (x ≤ y)) = so at *
          have hsl : so.length = l.length := by rw [← hso]; simp
          have hlt := block_lt k3
          have hpr : ∀ b, (Sort.putRow encStr (Sort.ahead S.w q) m.b (m.base + 0) so.toArray).heap[b]? = if m.b = b then some (.cells (vs0 ++ (so.map encStr ++ vs2)).toArray ty fr) else S.w.heap[b]? := by
            intro b
            simp only [Sort.putRow, Sort.mapBlock, Sort.ahead, Array.getElem?_modify]
            split
            · rename_i e
              subst e
              rw [k3]
              simp only [Option.map_some, Sort.onCells]
              rw [Nat.add_zero, ← k0, putCells_mid _ _ _ _ _ (by omega)]
            · rfl
          have hps : (Sort.putRow encStr (Sort.ahead S.w q) m.b (m.base + 0) so.toArray).heap.size = S.w.heap.size := by
            simp [Sort.putRow, Sort.mapBlock, Sort.ahead]
          have hgr : ∀ b, b < S.w.heap.size → (Sort.grow (Sort.putRow encStr (Sort.ahead S.w q) m.b (m.base + 0) so.toArray) os).heap[b]? = (Sort.putRow encStr (Sort.ahead S.w q) m.b (m.base + 0) so.toArray).heap[b]? := by
            intro b hb
            simp only [Sort.grow]
            exact Array.getElem?_append_left (by rw [hps]; exact hb)
          have hblk : (Sort.grow (Sort.putRow encStr (Sort.ahead S.w q) m.b (m.base + 0) so.toArray) os).heap[m.b]? = some (.cells (vs0 ++ (so.map encStr ++ vs2)).toArray ty fr) := by
            rw [hgr _ hlt, hpr, if_pos rfl]
          have hsz : S.w.heap.size ≤ (Sort.grow (Sort.putRow encStr (Sort.ahead S.w q) m.b (m.base + 0) so.toArray) os).heap.size := by
            rw [Sort.size_grow, hps]; omega
          have hk : ∀ b, b < S.w.heap.size → b ≠ m.b → (Sort.grow (Sort.putRow encStr (Sort.ahead S.w q) m.b (m.base + 0) so.toArray) os).heap[b]? = S.w.heap[b]? := by
            intro b hb hn
            rw [hgr _ hb, hpr, if_neg (fun e => hn e.symm)]
          have hE := at_ext hS k1 k7 hh hsz hk rfl rfl rfl
          have hSB : sortB l = so.map fun x => ⟨x.toArray⟩ := by unfold sortB; rw [hso]
          refine ⟨_, S.at _, rfl, rfl, at_SR hS k1 k7 hh hsz hk rfl rfl rfl (by rw [← hS.len]; exact hid) ?_, hE, undef_R0 _⟩
          simp only [RB]
          refine ⟨m, vs0, so.map encStr, vs2, fr, k1, k2, hblk, ?_, ?_, ?_, k0, k7, fun _ => ⟨hh, hu⟩⟩
          · simp only [List.length_append, List.length_map] at k4 ⊢; omega
          · rw [hSB]
            have : (so.map encStr) = (so.map fun x => (⟨x.toArray⟩ : ByteArray)).map Value.string := by simp [encStr]
            rw [this]
            exact RL_strs _
          · have h6 := One_append.1 k6
            refine One_append.2 ⟨h6.1, One_append.2 ⟨?_, (One_append.1 h6.2).2⟩⟩
            intro v hv
            obtain ⟨x, _, rfl⟩ := List.mem_map.1 hv
            rfl
        · cases h
      · cases h
    · cases h
  · cases h
end Go.Mm
end
