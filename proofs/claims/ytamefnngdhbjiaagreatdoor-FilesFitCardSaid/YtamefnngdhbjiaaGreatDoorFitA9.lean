/- A part of the proof of FilesFitCardSaid: S9, S10, S11, S12, S13, S14, S15, S16, S17, N7, S18, S19. -/
import Derived.Test.YtamefnngdhbjiaaGreatDoorFitA8
set_option linter.all false
section
namespace Go.Mm
open Go.Proofs
variable [Globs]
open Go.Proofs.Tryz renaming prog → TP
section
def idD : D → Option Nat
  | .osl id _ _ _ _ => some id
  | _ => none
def StrS (st : Store) (d : D) (l : List ByteArray) : Prop :=
  (d = .nils ∧ l = []) ∨ ∃ id ver off cs, d = .osl id ver 1 off l.length ∧ st[id]? = some (.cells ver true 9 cs) ∧ (cs.drop off).take l.length = l.map .str ∧ off + l.length ≤ cs.length
theorem StrS.cells {st : Store} {d : D} {l : List ByteArray} (h : StrS st d l) : D.cells? d = some [d] := by
  rcases h with ⟨rfl, _⟩ | ⟨id, ver, off, cs, rfl, _⟩ <;> rfl
theorem StrS.len {st : Store} {d : D} {l : List ByteArray} (h : StrS st d l) {st' : Store} : lnV (some d) st' = some (.int .i64 l.length, st') := by
  rcases h with ⟨rfl, rfl⟩ | ⟨id, ver, off, cs, rfl, _⟩ <;> rfl
theorem StrS.mono {st st' : Store} {d : D} {l : List ByteArray} (h : StrS st d l) (hk : ∀ i, idD d = some i → st'[i]? = st[i]?) : StrS st' d l := by
  rcases h with h | ⟨id, ver, off, cs, rfl, h1, h2, h3⟩
  · exact .inl h
  · exact .inr ⟨id, ver, off, cs, rfl, by rw [hk id rfl]; exact h1, h2, h3⟩
theorem StrS.get {st : Store} {d : D} {l : List ByteArray} (h : StrS st d l) {i : Nat} {k : IntKind} (hi : i < l.length) :
    ∃ p cs o, idxS 1 d (.int k i) = some p ∧ cellsAt st p = some (cs, o) ∧ cs[o]? = some (.str l[i]) := by
  rcases h with ⟨rfl, rfl⟩ | ⟨id, ver, off, cs, rfl, h1, h2, h3⟩
  · simp at hi
  · refine ⟨.ptr id ver (off + i), cs, off + i, ?_, ?_, ?_⟩
    · have a1 : (0 : Int) ≤ i := by omega
      have a2 : (i : Int) < (l.length : Nat) := by omega
      simp only [idxS, idx, a1, a2, and_self, if_true, Int.toNat_natCast, Nat.mul_one]
    · simp only [cellsAt, h1, if_true]
    · have := congrArg (fun x => x[i]?) h2
      simp only [List.getElem?_take, hi, if_true, List.getElem?_drop, List.getElem?_map] at this
      rw [this, List.getElem?_eq_getElem hi]; rfl
theorem StrS.hi {st : Store} {d : D} {l : List ByteArray} (h : StrS st d l) {n : Nat} {k : IntKind} (hn : n ≤ l.length) :
    ∃ d', sliceL 1 d none (some (.int k n)) = some d' ∧ StrS st d' (l.take n) ∧ idD d' = idD d := by
  rcases h with ⟨rfl, rfl⟩ | ⟨id, ver, off, cs, rfl, h1, h2, h3⟩
  · have : n = 0 := by simpa using hn
    subst this
    exact ⟨.nils, rfl, .inl ⟨rfl, rfl⟩, rfl⟩
  · have a1 : (0 : Int) ≤ n := by omega
    have a2 : (n : Int) ≤ (l.length : Nat) := by omega
    refine ⟨.osl id ver 1 off n, ?_, .inr ⟨id, ver, off, cs, by rw [List.length_take, Nat.min_eq_left hn], h1, ?_, by rw [List.length_take]; omega⟩, rfl⟩
    · simp only [sliceL, bound, a1, a2, and_self, if_true, Int.toNat_natCast, Nat.zero_mul, Nat.add_zero, Nat.sub_zero]
    · rw [List.length_take, Nat.min_eq_left hn, List.map_take, ← h2, List.take_take, Nat.min_eq_left hn]
theorem StrS.lo {st : Store} {d : D} {l : List ByteArray} (h : StrS st d l) {k : IntKind} (hn : 1 ≤ l.length) :
    ∃ d', sliceL 1 d (some (.int k 1)) none = some d' ∧ StrS st d' (l.drop 1) ∧ idD d' = idD d := by
  rcases h with ⟨rfl, rfl⟩ | ⟨id, ver, off, cs, rfl, h1, h2, h3⟩
  · simp at hn
  · have a2 : (1 : Int) ≤ (l.length : Nat) := by omega
    refine ⟨.osl id ver 1 (off + 1) (l.length - 1), ?_, .inr ⟨id, ver, off + 1, cs, by rw [List.length_drop], h1, ?_, by rw [List.length_drop]; omega⟩, rfl⟩
    · have a0 : (0 : Int) ≤ 1 := by decide
      simp only [sliceL, bound, a0, a2, and_self, if_true]
      rfl
    · rw [List.length_drop, List.map_drop, ← h2, List.drop_take, List.drop_drop]
theorem StrS.app {st : Store} {d x : D} {l m : List ByteArray} (h : StrS st d l) (hx : StrS st x m) (hl : (l.length + m.length) * 16 ≤ 70368744177664) :
    ∃ d' st', appendM st 9 1 16 d x = some (d', st') ∧ StrS st' d' (l ++ m) ∧ (∀ i, i < st.length → idD d ≠ some i → st'[i]? = st[i]?) ∧ st.length ≤ st'.length ∧ (idD d' = idD d ∨ idD d' = some st.length) := by
  have hs : srcCells st 1 x = some (m.map .str) ∧ lenOf x = some m.length := by
    rcases hx with ⟨rfl, rfl⟩ | ⟨id, ver, off, cs, rfl, h1, h2, h3⟩
    · exact ⟨rfl, rfl⟩
    · refine ⟨?_, rfl⟩
      simp only [srcCells, cellsOf, h1, Nat.mul_one, h3, and_self, if_true, h2]
  by_cases hm : m.length = 0
  · have : m = [] := List.eq_nil_of_length_eq_zero hm
    subst this
    refine ⟨d, st, ?_, by rw [List.append_nil]; exact h, fun i _ _ => rfl, Nat.le_refl _, .inl rfl⟩
    rcases h with ⟨rfl, rfl⟩ | ⟨id, ver, off, cs, rfl, h1, h2, h3⟩ <;> simp [appendM, hs.1, hs.2, slNil]
  · rcases h with ⟨rfl, rfl⟩ | ⟨id, ver, off, cs, rfl, h1, h2, h3⟩
    · refine ⟨.osl st.length 0 1 0 m.length, st ++ [.cells 0 true 9 (m.map .str)], ?_, .inr ⟨st.length, 0, 0, m.map .str, rfl, get_new, by rw [List.drop_zero]; exact List.take_of_length_le (by simp), by simp⟩, fun i hi _ => List.getElem?_append_left hi, by simp, .inr rfl⟩
      have h16 : m.length * 16 ≤ 70368744177664 ∧ m.length ≤ 70368744177664 := by simp at hl; exact ⟨hl, by omega⟩
      simp only [appendM, hs.1, hs.2, if_neg hm, h16, and_self, if_true]
    · refine ⟨.osl id (ver + 1) 1 0 (l.length + m.length), st.set id (.cells (ver + 1) true 9 ((cs.drop off).take l.length ++ m.map .str)), ?_, .inr ⟨id, ver + 1, 0, _, by rw [List.length_append], get_set_eq h1, by rw [h2, List.drop_zero, List.map_append, List.take_of_length_le (by simp)], by rw [h2]; simp⟩,
        fun i _ hn => get_set_ne (fun e => hn (by rw [e]; rfl)), by simp, .inl rfl⟩
      have h16 : (l.length + m.length) * 16 ≤ 70368744177664 ∧ l.length + m.length ≤ 70368744177664 := ⟨hl, by omega⟩
      simp only [appendM, hs.1, hs.2, if_neg hm, h1, Nat.mul_one, h3, h16, and_self, if_true]
theorem osl_ix {sz : Nat} {id ver off n : Nat} {k : IntKind} {i : Int} (h0 : 0 ≤ i) (h1 : i < n) : idxS sz (.osl id ver sz off n) (.int k i) = some (.ptr id ver (off + i.toNat * sz)) := by
  simp only [idxS, idx, h0, h1, and_self, if_true]
theorem d171 {st : Store} {id ver : Nat} {l : List ByteArray} (h : st[id]? = some (.cells ver true 9 (l.map .str))) (hn : l.length ≤ 1000000000) :
    Does1 C TP 171 [.osl id ver 1 0 l.length] st .undef (st.set id (.cells ver true 9 (l.reverse.map .str))) := by
  refine does_of (call_th rfl rfl (body_h b171 (by show 1 ≤ 28; decide) ?_))
  simp -dsimp (disch := ((try simp only [sz_sl, ByteArray.size_append]); omega)) only [↓R0, RA, simprocAttr, w64]
  refine hLoop_i (fun a : Nat × Int × List ByteArray => (a.2.1 + 1 - a.1).toNat) (fun a fr' st' => fr' 0 = .osl id ver 1 0 l.length ∧ fr' 2 = .int .i64 a.1 ∧ fr' 3 = .int .i64 a.2.1 ∧ (a.1 : Int) + a.2.1 = (l.length : Int) - 1 ∧ (a.1 : Int) ≤ a.2.1 + 2 ∧ a.2.2.length = l.length ∧
    (∀ j (hj : j < a.2.2.length) (hj' : l.length - 1 - j < l.length) (hj2 : j < l.length), a.2.2[j] = if (j < a.1 ∨ a.2.1 < (j : Int)) then l[l.length - 1 - j] else l[j]) ∧ st' = st.set id (.cells ver true 9 (a.2.2.map .str)))
    (0, (l.length : Int) - 1, l) ⟨rfl, rfl, rfl, by simp, by simp; omega, rfl, fun j hj hj' hj2 => by rw [if_neg (by simp; omega)], ?_⟩ ?_
  · exact (set_same h).symm
  rintro ⟨i, j, cur⟩ fr st1 ⟨h0, h2, h3, hij, hij2, hlen, hcur, rfl⟩
  simp only [] at h2 h3 hij hij2 hlen hcur
  have hg : ∀ b : Blk, (st.set id b)[id]? = some b := fun b => get_set_eq h
  simp -dsimp only [↓R0, RA, simprocAttr, h2, h3]
  apply hIf_d <;> intro hc
  · have hi : i < cur.length := by omega
    have hj : j.toNat < cur.length := by omega
    have e1 : (cur.map D.str)[i]? = some (.str cur[i]) := by rw [List.getElem?_map, List.getElem?_eq_getElem hi]; rfl
    have e2 : (cur.map D.str)[j.toNat]? = some (.str cur[j.toNat]) := by rw [List.getElem?_map, List.getElem?_eq_getElem hj]; rfl
    have e3 : (i + 1 ≤ (cur.map D.str).length) = True := by simp; omega
    have e4 : (j.toNat + 1 ≤ ((cur.map D.str).set i (.str cur[j.toNat])).length) = True := by simp; omega
    simp -dsimp (disch := ((try simp only [sz_sl, ByteArray.size_append]); omega)) only [↓R0, RA, simprocAttr, h0, h2, h3, hc, osl_ix, Int.toNat_natCast, Nat.mul_one, hg, e1, e2, e3, e4, List.set_set, w64]
    refine ⟨(i + 1, j - 1, (cur.set i cur[j.toNat]).set j.toNat cur[i]), ?_, (by first | trivial | (simp -dsimp only [R1, simprocAttr, h0]; done) | rfl), (by first | trivial | (simp -dsimp only [R1, simprocAttr]; done) | rfl), (by first | trivial | (simp -dsimp only [R1, simprocAttr]; done) | rfl), ?_, ?_, ?_, ?_, ?_⟩
    · simp only []; omega
    · simp only []; omega
    · simp only []; omega
    · simp only [List.length_set]; exact hlen
    · intro a ha ha' ha2
      simp only [List.length_set] at ha
      have hi2 := hcur i hi (by omega) (by omega)
      have hj2 := hcur j.toNat hj (by omega) (by omega)
      rw [if_neg (by omega)] at hi2 hj2
      simp only [List.getElem_set]
      by_cases g1 : j.toNat = a
      · subst g1
        rw [if_pos rfl, if_pos (by omega), hi2]
        congr 1; omega
      · rw [if_neg g1]
        by_cases g2 : i = a
        · subst g2
          rw [if_pos rfl, if_pos (by omega), hj2]
          congr 1; omega
        · rw [if_neg g2, hcur a ha ha' ha2]
          by_cases g3 : a < i ∨ j < (a : Int)
          · rw [if_pos g3, if_pos (by omega)]
          · rw [if_neg g3, if_neg (by omega)]
    · simp only [List.map_set]
  · simp -dsimp only [↓R0, RA, simprocAttr, hc]
    refine ⟨by first | trivial | rfl, ?_⟩
    have : cur = l.reverse := by
      apply List.ext_getElem (by simp [hlen])
      intro a h1 h2
      rw [List.getElem_reverse, hcur a h1 (by omega) (by omega)]
      by_cases g3 : a < i ∨ j < (a : Int)
      · rw [if_pos g3]
      · rw [if_neg g3]
        congr 1; omega
    rw [this]
end
section
structure Wkr (st : Store) (wid : Nat) (t : Tr) (a : Int) (lv : D) (stk : List ByteArray) (links : Int) : Prop where
  blk : st[wid]? = some (.cells 0 true 163 [t.nd, .int .i64 t.mx, .int .i64 t.mb, .int .i64 a, lv, .int .i64 links])
  str : StrS st lv stk
  ne : idD lv ≠ some wid
def Else (st st' : Store) (wid : Nat) (lv lv' : D) : Prop :=
  st.length ≤ st'.length ∧ (∀ i, i < st.length → i ≠ wid → idD lv ≠ some i → st'[i]? = st[i]?) ∧ (idD lv' = idD lv ∨ ∃ i, idD lv' = some i ∧ st.length ≤ i)
theorem StrS.grow {st g : Store} {d : D} {l : List ByteArray} (h : StrS st d l) : StrS (st ++ g) d l := by
  rcases h with h | ⟨id, ver, off, cs, rfl, h1, h2, h3⟩
  · exact .inl h
  · exact .inr ⟨id, ver, off, cs, rfl, get_app h1, h2, h3⟩
theorem d171n {st : Store} : Does1 C TP 171 [.nils] st .undef st := by
  refine does_of (call_th rfl rfl (body_h b171 (by show 1 ≤ 28; decide) ?_))
  simp -dsimp (disch := ((try simp only [sz_sl, ByteArray.size_append]); omega)) only [↓R0, RA, simprocAttr, w64]
  refine hLoop_i (fun _ : Unit => 0) (fun _ fr' st' => fr' 2 = .int .i64 0 ∧ fr' 3 = .int .i64 (-1) ∧ st' = st) () ⟨rfl, rfl, rfl⟩ ?_
  rintro _ fr st1 ⟨h2, h3, rfl⟩
  have e : ¬ ((0 : Int) < -1) := by decide
  simp -dsimp only [↓R0, RA, simprocAttr, h2, h3, e]
theorem d159 {st : Store} {wid : Nat} {t : Tr} {a : Int} {lv : D} {stk : List ByteArray} {links : Int} {p : ByteArray} (h : Wkr st wid t a lv stk links) (hp : p.size ≤ 100000) (hs : stk.length ≤ 1000000) :
    CallW C TP 159 [.ptr wid 0 0, .str p] st fun _ st' => ∃ lv', Wkr st' wid t (if whole p then 0 else a) lv' (stk ++ (parts p).reverse) links ∧ Else st st' wid lv lv' := by
  refine call_th rfl rfl (body_h b159 (by show 2 ≤ 23; decide) ?_)
  have hpl := parts_len (p := p)
  simp -dsimp only [↓R0, RA, simprocAttr, hCall_g s116]
  apply hIf_d <;> intro hw
  · simp -dsimp only [↓R0, RA, simprocAttr, h.blk]
    have hW1 : Wkr (st.set wid (.cells 0 true 163 [t.nd, .int .i64 t.mx, .int .i64 t.mb, .int .i64 0, lv, .int .i64 links])) wid t (if whole p then 0 else a) lv stk links := (⟨by rw [if_pos hw]; exact get_set_eq h.blk, h.str.mono fun i hi => get_set_ne fun e => h.ne (e ▸ hi), h.ne⟩)
    have hL1 : ((st.set wid (.cells 0 true 163 [t.nd, .int .i64 t.mx, .int .i64 t.mb, .int .i64 0, lv, .int .i64 links])) : Store).length = st.length := by first | rfl | simp
    have hE1 : ∀ i, i ≠ wid → ((st.set wid (.cells 0 true 163 [t.nd, .int .i64 t.mx, .int .i64 t.mb, .int .i64 0, lv, .int .i64 links])) : Store)[i]? = st[i]? := (fun i hi => get_set_ne hi)
    generalize ((st.set wid (.cells 0 true 163 [t.nd, .int .i64 t.mx, .int .i64 t.mb, .int .i64 0, lv, .int .i64 links])) : Store) = st1 at *
    have hwl := get_lt h.blk
    refine hCall_c (s123 (st := st1) (by omega)) ?_
    rintro d st2 (⟨hp0, rfl, rfl⟩ | ⟨ver, hp0, rfl, rfl⟩)
    · simp -dsimp only [↓R0, RA, simprocAttr, hCall_d d171n]
      obtain ⟨lv', st3, e, g1, g2, g3, g4⟩ := hW1.str.app (x := .nils) (m := []) (.inl ⟨rfl, rfl⟩) (by simp; omega)
      have hb : st3[wid]? = some (.cells 0 true 163 [t.nd, .int .i64 t.mx, .int .i64 t.mb, .int .i64 (if whole p then 0 else a), lv, .int .i64 links]) := by rw [g2 wid (by omega) hW1.ne]; exact hW1.blk
      simp -dsimp only [↓R0, RA, simprocAttr, hW1.blk, e, hb, g1.cells]
      refine ⟨lv', ⟨get_set_eq hb, ?_, ?_⟩, ?_⟩
      · rw [hp0]
        refine g1.mono fun i hi => get_set_ne ?_
        rintro rfl
        rcases g4 with g4 | g4
        · exact hW1.ne (g4 ▸ hi)
        · rw [g4] at hi; injection hi with hi; omega
      · rcases g4 with g4 | g4
        · rw [g4]; exact hW1.ne
        · rw [g4]; intro hi; injection hi with hi; omega
      · refine ⟨by simp; omega, fun i hi hw hl => ?_, ?_⟩
        · rw [get_set_ne hw, g2 i (by omega) hl] <;> exact hE1 i hw
        · rcases g4 with g4 | g4
          · exact .inl g4
          · exact .inr ⟨_, g4, by omega⟩
    · simp -dsimp only [↓R0, RA, simprocAttr, hCall_d (d171 (l := parts p) get_new (by omega))]
      have hset : (st1 ++ [Blk.cells ver true 9 ((parts p).map .str)]).set st1.length (.cells ver true 9 ((parts p).reverse.map .str)) = st1 ++ [.cells ver true 9 ((parts p).reverse.map .str)] := by
        rw [List.set_append_right _ _ (Nat.le_refl _), Nat.sub_self]; rfl
      rw [hset]
      have hW2 : Wkr (st1 ++ [.cells ver true 9 ((parts p).reverse.map .str)]) wid t (if whole p then 0 else a) lv stk links := ⟨get_app hW1.blk, hW1.str.grow, hW1.ne⟩
      have hx : StrS (st1 ++ [.cells ver true 9 ((parts p).reverse.map .str)]) (.osl st1.length ver 1 0 (parts p).length) (parts p).reverse :=
        .inr ⟨st1.length, ver, 0, _, by rw [List.length_reverse], get_new, by rw [List.drop_zero]; exact List.take_of_length_le (by simp), by simp⟩
      obtain ⟨lv', st3, e, g1, g2, g3, g4⟩ := hW2.str.app hx (by simp; omega)
      have hlt2 : wid < (st1 ++ [Blk.cells ver true 9 ((parts p).reverse.map .str)]).length := by simp; omega
      have hb : st3[wid]? = some (.cells 0 true 163 [t.nd, .int .i64 t.mx, .int .i64 t.mb, .int .i64 (if whole p then 0 else a), lv, .int .i64 links]) := by rw [g2 wid hlt2 hW1.ne]; exact hW2.blk
      simp -dsimp only [↓R0, RA, simprocAttr, hW2.blk, e, hb, g1.cells]
      simp at g3 g4
      refine ⟨lv', ⟨get_set_eq hb, ?_, ?_⟩, ?_⟩
      · refine g1.mono fun i hi => get_set_ne ?_
        rintro rfl
        rcases g4 with g4 | g4
        · exact hW1.ne (g4 ▸ hi)
        · rw [g4] at hi; injection hi with hi; omega
      · rcases g4 with g4 | g4
        · rw [g4]; exact hW1.ne
        · rw [g4]; intro hi; injection hi with hi; omega
      · refine ⟨by simp; omega, fun i hi hw hl => ?_, ?_⟩
        · rw [get_set_ne hw, g2 i (by simp; omega) hl, List.getElem?_append_left (by omega)] <;> exact hE1 i hw
        · rcases g4 with g4 | g4
          · exact .inl g4
          · exact .inr ⟨_, g4, by omega⟩
  · simp -dsimp only [↓R0, RA, simprocAttr]
    have hW1 : Wkr st wid t (if whole p then 0 else a) lv stk links := (⟨by rw [if_neg hw]; exact h.blk, h.str, h.ne⟩)
    have hL1 : (st : Store).length = st.length := by first | rfl | simp
    have hE1 : ∀ i, i ≠ wid → (st : Store)[i]? = st[i]? := (fun i _ => rfl)
    generalize (st : Store) = st1 at *
    have hwl := get_lt h.blk
    refine hCall_c (s123 (st := st1) (by omega)) ?_
    rintro d st2 (⟨hp0, rfl, rfl⟩ | ⟨ver, hp0, rfl, rfl⟩)
    · simp -dsimp only [↓R0, RA, simprocAttr, hCall_d d171n]
      obtain ⟨lv', st3, e, g1, g2, g3, g4⟩ := hW1.str.app (x := .nils) (m := []) (.inl ⟨rfl, rfl⟩) (by simp; omega)
      have hb : st3[wid]? = some (.cells 0 true 163 [t.nd, .int .i64 t.mx, .int .i64 t.mb, .int .i64 (if whole p then 0 else a), lv, .int .i64 links]) := by rw [g2 wid (by omega) hW1.ne]; exact hW1.blk
      simp -dsimp only [↓R0, RA, simprocAttr, hW1.blk, e, hb, g1.cells]
      refine ⟨lv', ⟨get_set_eq hb, ?_, ?_⟩, ?_⟩
      · rw [hp0]
        refine g1.mono fun i hi => get_set_ne ?_
        rintro rfl
        rcases g4 with g4 | g4
        · exact hW1.ne (g4 ▸ hi)
        · rw [g4] at hi; injection hi with hi; omega
      · rcases g4 with g4 | g4
        · rw [g4]; exact hW1.ne
        · rw [g4]; intro hi; injection hi with hi; omega
      · refine ⟨by simp; omega, fun i hi hw hl => ?_, ?_⟩
        · rw [get_set_ne hw, g2 i (by omega) hl] <;> exact hE1 i hw
        · rcases g4 with g4 | g4
          · exact .inl g4
          · exact .inr ⟨_, g4, by omega⟩
    · simp -dsimp only [↓R0, RA, simprocAttr, hCall_d (d171 (l := parts p) get_new (by omega))]
      have hset : (st1 ++ [Blk.cells ver true 9 ((parts p).map .str)]).set st1.length (.cells ver true 9 ((parts p).reverse.map .str)) = st1 ++ [.cells ver true 9 ((parts p).reverse.map .str)] := by
        rw [List.set_append_right _ _ (Nat.le_refl _), Nat.sub_self]; rfl
      rw [hset]
      have hW2 : Wkr (st1 ++ [.cells ver true 9 ((parts p).reverse.map .str)]) wid t (if whole p then 0 else a) lv stk links := ⟨get_app hW1.blk, hW1.str.grow, hW1.ne⟩
      have hx : StrS (st1 ++ [.cells ver true 9 ((parts p).reverse.map .str)]) (.osl st1.length ver 1 0 (parts p).length) (parts p).reverse :=
        .inr ⟨st1.length, ver, 0, _, by rw [List.length_reverse], get_new, by rw [List.drop_zero]; exact List.take_of_length_le (by simp), by simp⟩
      obtain ⟨lv', st3, e, g1, g2, g3, g4⟩ := hW2.str.app hx (by simp; omega)
      have hlt2 : wid < (st1 ++ [Blk.cells ver true 9 ((parts p).reverse.map .str)]).length := by simp; omega
      have hb : st3[wid]? = some (.cells 0 true 163 [t.nd, .int .i64 t.mx, .int .i64 t.mb, .int .i64 (if whole p then 0 else a), lv, .int .i64 links]) := by rw [g2 wid hlt2 hW1.ne]; exact hW2.blk
      simp -dsimp only [↓R0, RA, simprocAttr, hW2.blk, e, hb, g1.cells]
      simp at g3 g4
      refine ⟨lv', ⟨get_set_eq hb, ?_, ?_⟩, ?_⟩
      · refine g1.mono fun i hi => get_set_ne ?_
        rintro rfl
        rcases g4 with g4 | g4
        · exact hW1.ne (g4 ▸ hi)
        · rw [g4] at hi; injection hi with hi; omega
      · rcases g4 with g4 | g4
        · rw [g4]; exact hW1.ne
        · rw [g4]; intro hi; injection hi with hi; omega
      · refine ⟨by simp; omega, fun i hi hw hl => ?_, ?_⟩
        · rw [get_set_ne hw, g2 i (by simp; omega) hl, List.getElem?_append_left (by omega)] <;> exact hE1 i hw
        · rcases g4 with g4 | g4
          · exact .inl g4
          · exact .inr ⟨_, g4, by omega⟩
end
section
def Tr.way (t : Tr) (last : Bool) (L : Nat) (a : Int) (names : List ByteArray) : Int × Int :=
  match names with
  | [] => (a, 0)
  | nm :: r =>
    if (t.step a nm).2 ≠ 0 then (0, (t.step a nm).2) else
    if (t.at (t.step a nm).1).kind ≠ 3 ∨ (r = [] ∧ last = false) then t.way last L (t.step a nm).1 r else
    match L with
    | 0 => (0, 40)
    | L + 1 => t.way last L (if whole (t.at (t.step a nm).1).data then 0 else a) (parts (t.at (t.step a nm).1).data ++ r)
termination_by (L, names.length)
theorem T.link {t : Tr} (h : T t) {k : Int} (hk : t.live k) (h3 : (t.at k).kind = 3) : (t.at k).data.size ≤ 1024 := ((h.fit.one k hk.1).1.link h3).2.2.2.2
structure Run (k : Nat) (bs : Store) (st : Store) (n0 wid : Nat) (last : Bool) (lv : D) (e : Int) (fr : Fr) (ls : LoopState) (q : Option Code) : Prop where
  b0 : st[n0]? = some (.cells 0 true 156 [.ptr wid 0 0])
  b1 : st[n0 + 1]? = some (.cells 0 true 4 [.bool last])
  b2 : st[n0 + 2]? = some (.cells 0 true 83 [.int .i64 e])
  b3 : st[n0 + 3]? = some (.cells 0 true 156 [.ptr wid 0 0])
  b4 : st[n0 + 4]? = some (.loop ls q 138 fr 88 #[12] (cAt (cOf TP 138) [1, 0, 1, 1, 0, 1, 0, 0]) (cAt (cOf TP 138) [1, 0, 1, 1, 0, 1, 0, 1]))
  f2 : fr 2 = .ptr n0 0 0
  f3 : fr 3 = .ptr (n0 + 1) 0 0
  f6 : fr 6 = .ptr (n0 + 2) 0 0
  lt : wid < n0
  lvs : ∀ i, idD lv = some i → i < n0 ∨ n0 + 4 < i
  kw : k ≤ wid
  kl : ∀ i, idD lv = some i → k ≤ i
  fix : ∀ i, i < k → st[i]? = bs[i]?
theorem Run.move {k : Nat} {bs : Store} {st st' : Store} {n0 wid : Nat} {last : Bool} {lv lv' : D} {e : Int} {fr : Fr} {ls : LoopState} {q : Option Code} (h : Run k bs st n0 wid last lv e fr ls q) (hE : Else st st' wid lv lv') : Run k bs st' n0 wid last lv' e fr ls q := by
  obtain ⟨h1, h2, h3⟩ := hE
  have key : ∀ j, j ≤ 4 → idD lv ≠ some (n0 + j) := fun j hj e => by have := h.lvs _ e; omega
  have hl := get_lt h.b4
  have hlt := h.lt
  have hkw := h.kw
  refine ⟨?_, ?_, ?_, ?_, ?_, h.f2, h.f3, h.f6, h.lt, ?_, h.kw, ?_, fun i hi => by rw [h2 i (by omega) (by omega) (fun e => by have := h.kl _ e; omega)]; exact h.fix i hi⟩
  · rw [h2 n0 (by omega) (by omega) (key 0 (by omega))]; exact h.b0
  · rw [h2 (n0 + 1) (by omega) (by omega) (key 1 (by omega))]; exact h.b1
  · rw [h2 (n0 + 2) (by omega) (by omega) (key 2 (by omega))]; exact h.b2
  · rw [h2 (n0 + 3) (by omega) (by omega) (key 3 (by omega))]; exact h.b3
  · rw [h2 (n0 + 4) (by omega) (by omega) (key 4 (by omega))]; exact h.b4
  · intro i hi
    rcases h3 with h3 | ⟨j, h3, h4⟩
    · exact h.lvs i (h3 ▸ hi)
    · rw [h3] at hi; injection hi with hi; omega
  · intro i hi
    rcases h3 with h3 | ⟨j, h3, h4⟩
    · exact h.kl i (h3 ▸ hi)
    · rw [h3] at hi; injection hi with hi; omega
theorem Run.loop {k : Nat} {bs : Store} {st : Store} {n0 wid : Nat} {last : Bool} {lv : D} {e : Int} {fr : Fr} {ls ls' : LoopState} {q q' : Option Code} (h : Run k bs st n0 wid last lv e fr ls q) :
    Run k bs (st.set (n0 + 4) (.loop ls' q' 138 fr 88 #[12] (cAt (cOf TP 138) [1, 0, 1, 1, 0, 1, 0, 0]) (cAt (cOf TP 138) [1, 0, 1, 1, 0, 1, 0, 1]))) n0 wid last lv e fr ls' q' := by
  have hkw := h.kw
  have hlt := h.lt
  refine ⟨?_, ?_, ?_, ?_, get_set_eq h.b4, h.f2, h.f3, h.f6, h.lt, h.lvs, h.kw, h.kl, fun i hi => by rw [get_set_ne (by omega)]; exact h.fix i hi⟩
  · rw [get_set_ne (by omega)]; exact h.b0
  · rw [get_set_ne (by omega)]; exact h.b1
  · rw [get_set_ne (by omega)]; exact h.b2
  · rw [get_set_ne (by omega)]; exact h.b3
theorem Run.err {k : Nat} {bs : Store} {st : Store} {n0 wid : Nat} {last : Bool} {lv : D} {e e' : Int} {fr : Fr} {ls : LoopState} {q : Option Code} (h : Run k bs st n0 wid last lv e fr ls q) :
    Run k bs (st.set (n0 + 2) (.cells 0 true 83 [.int .i64 e'])) n0 wid last lv e' fr ls q := by
  have hkw := h.kw
  have hlt := h.lt
  refine ⟨?_, ?_, get_set_eq h.b2, ?_, ?_, h.f2, h.f3, h.f6, h.lt, h.lvs, h.kw, h.kl, fun i hi => by rw [get_set_ne (by omega)]; exact h.fix i hi⟩
  · rw [get_set_ne (by omega)]; exact h.b0
  · rw [get_set_ne (by omega)]; exact h.b1
  · rw [get_set_ne (by omega)]; exact h.b3
  · rw [get_set_ne (by omega)]; exact h.b4
theorem Run.wid {k : Nat} {bs : Store} {st : Store} {n0 wid : Nat} {last : Bool} {lv : D} {e : Int} {fr : Fr} {ls : LoopState} {q : Option Code} {b : Blk} (h : Run k bs st n0 wid last lv e fr ls q) :
    Run k bs (st.set wid b) n0 wid last lv e fr ls q := by
  have := h.lt
  have hkw := h.kw
  refine ⟨?_, ?_, ?_, ?_, ?_, h.f2, h.f3, h.f6, h.lt, h.lvs, h.kw, h.kl, fun i hi => by rw [get_set_ne (by omega)]; exact h.fix i hi⟩
  · rw [get_set_ne (by omega)]; exact h.b0
  · rw [get_set_ne (by omega)]; exact h.b1
  · rw [get_set_ne (by omega)]; exact h.b2
  · rw [get_set_ne (by omega)]; exact h.b3
  · rw [get_set_ne (by omega)]; exact h.b4
theorem Wkr.set {st : Store} {wid : Nat} {t : Tr} {a : Int} {lv : D} {stk : List ByteArray} {links : Int} (h : Wkr st wid t a lv stk links) {i : Nat} {b : Blk} (hi : i ≠ wid) (hl : idD lv ≠ some i) : Wkr (st.set i b) wid t a lv stk links :=
  ⟨by rw [get_set_ne hi.symm]; exact h.blk, h.str.mono fun j hj => get_set_ne fun e => hl (e ▸ hj), h.ne⟩
theorem y138 {k : Nat} {bs : Store} {st : Store} {n0 wid : Nat} {t : Tr} {last : Bool} {a : Int} {lv : D} {stk : List ByteArray} {L : Nat} {nm : ByteArray} {fr : Fr} (hT : T t) (hR : Run k bs st n0 wid last lv 0 fr .ready none) (hL : L ≤ 8)
    (hW : Wkr st wid t a lv stk (8 - (L : Int))) (hs : stk.length ≤ 100000) :
    YieldW C TP (n0 + 4) [.str nm] st fun d st' => st.length ≤ st'.length ∧ ((d = .bool true ∧ ∃ (a' : Int) (lv' : D) (stk' : List ByteArray) (L' : Nat), Run k bs st' n0 wid last lv' 0 fr .ready none ∧ L' ≤ 8 ∧ Wkr st' wid t a' lv' stk' (8 - (L' : Int)) ∧
        t.way last L a (nm :: stk.reverse) = t.way last L' a' stk'.reverse ∧ L' * 2000 + stk'.length ≤ L * 2000 + stk.length ∧ (stk'.length ≤ stk.length + 1024 * (L - L')) ∧ L' ≤ L) ∨
      (d = .bool false ∧ ∃ e lv', e ≠ 0 ∧ Run k bs st' n0 wid last lv' e fr .done (some (.exit 0)) ∧ t.way last L a (nm :: stk.reverse) = (0, e))) := by
  refine yield_h hR.b4 (fr1 := upd fr 12 (.str nm)) rfl r138a r138b ?_
  simp -dsimp only [↓R0, RA, simprocAttr]
  refine ⟨trivial, trivial, ?_⟩
  have hB := hR.loop (ls' := .busy) (q' := none)
  have hlt := hR.lt
  have hW1 : Wkr (st.set (n0 + 4) (.loop .busy none 138 fr 88 #[12] (cAt (cOf TP 138) [1, 0, 1, 1, 0, 1, 0, 0]) (cAt (cOf TP 138) [1, 0, 1, 1, 0, 1, 0, 1]))) wid t a lv stk (8 - (L : Int)) :=
    hW.set (by omega) (fun e => by have := hR.lvs _ e; omega)
  have hlen1 : (st.set (n0 + 4) (.loop .busy none 138 fr 88 #[12] (cAt (cOf TP 138) [1, 0, 1, 1, 0, 1, 0, 0]) (cAt (cOf TP 138) [1, 0, 1, 1, 0, 1, 0, 1]))).length = st.length := by simp
  generalize (st.set (n0 + 4) (Blk.loop .busy none 138 fr 88 #[12] (cAt (cOf TP 138) [1, 0, 1, 1, 0, 1, 0, 0]) (cAt (cOf TP 138) [1, 0, 1, 1, 0, 1, 0, 1]))) = st1 at *
  simp -dsimp only [↓R0, RA, simprocAttr, hR.f2, hB.b0, hW1.blk, hCall_g (s163 hT)]
  have hlive := hT.step_live (a := a) (nm := nm)
  have hway := Tr.way.eq_def t last L a (nm :: stk.reverse)
  simp only [] at hway
  generalize t.step a nm = s at *
  obtain ⟨k, e⟩ := s
  simp only [] at hlive hway ⊢
  apply hIf_d <;> intro he
  · have hk := hlive he
    rw [if_neg (by simpa using he)] at hway
    simp -dsimp only [↓R0, RA, simprocAttr, decide_eq_true he, hR.f2, hB.b0, hW1.blk, Tr.ixh hT.ok hk.1, Tr.c0 hk.1]
    apply hIf_d <;> intro h3
    · simp -dsimp only [↓R0, RA, simprocAttr, decide_eq_true h3, hR.f2, hB.b0, hW1.blk, hW1.str.len]
      apply hIf_d <;> intro h0
      · have hnil : stk = [] := List.eq_nil_of_length_eq_zero (by omega)
        simp -dsimp only [↓R0, RA, simprocAttr, decide_eq_true h3, decide_eq_true h0, hR.f3, hB.b1, un]
        cases last with
        | false =>
          rw [if_pos (.inr ⟨by rw [hnil]; rfl, rfl⟩)] at hway
          simp -dsimp only [↓R0, RA, simprocAttr, decide_eq_true h3, decide_eq_true h0, hR.f2, hB.b0, hW1.blk]
          refine ⟨hB.wid.b4, ?_, .inl ⟨rfl, k, lv, stk, L, hB.wid.loop, hL, ?_, hway, Nat.le_refl _, by omega, Nat.le_refl _⟩⟩
          · simp; omega
          · refine Wkr.set ⟨get_set_eq hW1.blk, hW1.str.mono fun i hi => get_set_ne fun e => hW1.ne (e ▸ hi), hW1.ne⟩ (by omega) (fun e => by have := hB.lvs _ e; omega)
        | true =>
          rw [if_neg (by simp [h3])] at hway
          simp -dsimp only [↓R0, RA, simprocAttr, decide_eq_true h3, decide_eq_true h0]
          have e8 : decide ((8 : Int) - (L : Int) = 8) = decide (L = 0) := by rw [decide_eq_decide]; omega
          simp -dsimp only [↓R0, RA, simprocAttr, decide_eq_true h3, hR.f2, hB.b0, hW1.blk, e8]
          cases L with
          | zero =>
            simp -dsimp only [↓R0, RA, simprocAttr, hR.f6, hB.b2]
            refine ⟨hB.err.b4, ?_, .inr ⟨rfl, 40, lv, by decide, hB.err.loop, hway⟩⟩
            simp; omega
          | succ L =>
            have e9 : ¬ (L + 1 = 0) := by omega
            have hds := hT.link hk h3
            simp -dsimp (disch := ((try simp only [sz_sl, ByteArray.size_append]); omega)) only [↓R0, RA, simprocAttr, e9, hR.f2, hB.b0, hW1.blk, w64]
            have hW2 : Wkr (st1.set wid (.cells 0 true 163 [t.nd, .int .i64 t.mx, .int .i64 t.mb, .int .i64 a, lv, .int .i64 (8 - ((L + 1 : Nat) : Int) + 1)])) wid t a lv stk (8 - ((L + 1 : Nat) : Int) + 1) :=
              ⟨get_set_eq hW1.blk, hW1.str.mono fun i hi => get_set_ne fun e => hW1.ne (e ▸ hi), hW1.ne⟩
            have hR2 := hB.wid (b := .cells 0 true 163 [t.nd, .int .i64 t.mx, .int .i64 t.mb, .int .i64 a, lv, .int .i64 (8 - ((L + 1 : Nat) : Int) + 1)])
            simp -dsimp only [↓R0, RA, simprocAttr, hR.f2, hR2.b0, hW2.blk, Tr.ixh hT.ok hk.1, Tr.c3 hk.1]
            refine hCall_c (d159 (p := (t.at k).data) hW2 (by omega) (by omega)) ?_
            rintro _ st2 ⟨lv', hW3, hE⟩
            simp -dsimp only [↓R0, RA, simprocAttr]
            have hR3 := hR2.move hE
            have hpl := parts_len (p := (t.at k).data)
            refine ⟨hR3.b4, ?_, .inl ⟨rfl, (if whole (t.at k).data then 0 else a), lv', stk ++ (parts (t.at k).data).reverse, L, hR3.loop, by omega, ?_, ?_, ?_, ?_, by omega⟩⟩
            · have := hE.1; simp at this ⊢; omega
            · refine Wkr.set (by have : (8 : Int) - ((L + 1 : Nat) : Int) + 1 = 8 - (L : Int) := by omega
                                 rw [this] at hW3; exact hW3) (by omega) (fun e => by have := hR3.lvs _ e; omega)
            · rw [hway, List.reverse_append, List.reverse_reverse]
            · simp; omega
            · simp; omega
      · rw [if_neg (by
          rintro (h | ⟨h, _⟩)
          · exact h h3
          · apply h0
            rw [List.reverse_eq_nil_iff] at h
            rw [h]; rfl)] at hway
        simp -dsimp only [↓R0, RA, simprocAttr, decide_eq_true h3, h0]
        have e8 : decide ((8 : Int) - (L : Int) = 8) = decide (L = 0) := by rw [decide_eq_decide]; omega
        simp -dsimp only [↓R0, RA, simprocAttr, decide_eq_true h3, hR.f2, hB.b0, hW1.blk, e8]
        cases L with
        | zero =>
          simp -dsimp only [↓R0, RA, simprocAttr, hR.f6, hB.b2]
          refine ⟨hB.err.b4, ?_, .inr ⟨rfl, 40, lv, by decide, hB.err.loop, hway⟩⟩
          simp; omega
        | succ L =>
          have e9 : ¬ (L + 1 = 0) := by omega
          have hds := hT.link hk h3
          simp -dsimp (disch := ((try simp only [sz_sl, ByteArray.size_append]); omega)) only [↓R0, RA, simprocAttr, e9, hR.f2, hB.b0, hW1.blk, w64]
          have hW2 : Wkr (st1.set wid (.cells 0 true 163 [t.nd, .int .i64 t.mx, .int .i64 t.mb, .int .i64 a, lv, .int .i64 (8 - ((L + 1 : Nat) : Int) + 1)])) wid t a lv stk (8 - ((L + 1 : Nat) : Int) + 1) :=
            ⟨get_set_eq hW1.blk, hW1.str.mono fun i hi => get_set_ne fun e => hW1.ne (e ▸ hi), hW1.ne⟩
          have hR2 := hB.wid (b := .cells 0 true 163 [t.nd, .int .i64 t.mx, .int .i64 t.mb, .int .i64 a, lv, .int .i64 (8 - ((L + 1 : Nat) : Int) + 1)])
          simp -dsimp only [↓R0, RA, simprocAttr, hR.f2, hR2.b0, hW2.blk, Tr.ixh hT.ok hk.1, Tr.c3 hk.1]
          refine hCall_c (d159 (p := (t.at k).data) hW2 (by omega) (by omega)) ?_
          rintro _ st2 ⟨lv', hW3, hE⟩
          simp -dsimp only [↓R0, RA, simprocAttr]
          have hR3 := hR2.move hE
          have hpl := parts_len (p := (t.at k).data)
          refine ⟨hR3.b4, ?_, .inl ⟨rfl, (if whole (t.at k).data then 0 else a), lv', stk ++ (parts (t.at k).data).reverse, L, hR3.loop, by omega, ?_, ?_, ?_, ?_, by omega⟩⟩
          · have := hE.1; simp at this ⊢; omega
          · refine Wkr.set (by have : (8 : Int) - ((L + 1 : Nat) : Int) + 1 = 8 - (L : Int) := by omega
                               rw [this] at hW3; exact hW3) (by omega) (fun e => by have := hR3.lvs _ e; omega)
          · rw [hway, List.reverse_append, List.reverse_reverse]
          · simp; omega
          · simp; omega
    · rw [if_pos (.inl h3)] at hway
      simp -dsimp only [↓R0, RA, simprocAttr, h3, hR.f2, hB.b0, hW1.blk]
      refine ⟨hB.wid.b4, ?_, .inl ⟨rfl, k, lv, stk, L, hB.wid.loop, hL, ?_, hway, Nat.le_refl _, by omega, Nat.le_refl _⟩⟩
      · simp; omega
      · refine Wkr.set ⟨get_set_eq hW1.blk, hW1.str.mono fun i hi => get_set_ne fun e => hW1.ne (e ▸ hi), hW1.ne⟩ (by omega) (fun e => by have := hB.lvs _ e; omega)
  · simp -dsimp only [↓R0, RA, simprocAttr, he, hR.f2, hB.b0, hW1.blk, hR.f6, hB.b2]
    rw [if_pos he] at hway
    refine ⟨hB.err.b4, ?_, .inr ⟨rfl, e, lv, he, hB.err.loop, hway⟩⟩
    simp; omega
end
end Go.Mm
end
section
namespace Go.Mm
open Go.Proofs
variable [Globs]
set_option maxRecDepth 8000
open Go.Proofs.Tryz renaming prog → TP
section
theorem Else.refl {st : Store} {wid : Nat} {lv : D} : Else st st wid lv lv := ⟨Nat.le_refl _, fun _ _ _ _ => rfl, .inl rfl⟩
theorem stk_rev {stk : List ByteArray} {i : Nat} (h : stk.length = i + 1) : stk.reverse = stk[i] :: (stk.take i).reverse := by
  have : stk = stk.take i ++ [stk[i]] := by
    have := (List.take_append_drop i stk).symm
    rw [List.drop_eq_getElem_cons (by omega), List.drop_eq_nil_of_le (by omega)] at this
    exact this
  conv => lhs; rw [this]
  rw [List.reverse_append]; rfl
theorem w173 {k : Nat} {bs : Store} {st : Store} {n0 wid : Nat} {t : Tr} {last : Bool} {a : Int} {lv : D} {stk : List ByteArray} {L : Nat} {fr : Fr} (hT : T t) (hR : Run k bs st n0 wid last lv 0 fr .ready none) (hL : L ≤ 8)
    (hW : Wkr st wid t a lv stk (8 - (L : Int))) (hs : stk.length + 1024 * L ≤ 100000) :
    BodyW C TP 173 [.yld (n0 + 4), .ptr (n0 + 3) 0 0] st fun _ st' => st.length ≤ st'.length ∧ ((∃ a' lv' l', Run k bs st' n0 wid last lv' 0 fr .ready none ∧ Wkr st' wid t a' lv' [] l' ∧ t.way last L a stk.reverse = (a', 0)) ∨
      (∃ e lv', e ≠ 0 ∧ Run k bs st' n0 wid last lv' e fr .done (some (.exit 0)) ∧ t.way last L a stk.reverse = (0, e))) := by
  refine body_h b173 (by show 2 ≤ 39; decide) ?_
  simp -dsimp only [↓R0, RA, simprocAttr, hR.b3, hW.blk, hW.str.len]
  refine hLoop_i (fun x : Int × D × List ByteArray × Nat => x.2.2.2 * 2000 + x.2.2.1.length) (fun x fr' st' => fr' 0 = .yld (n0 + 4) ∧ fr' 1 = .ptr (n0 + 3) 0 0 ∧ fr' 3 = .int .i64 x.2.2.1.length ∧
    Run k bs st' n0 wid last x.2.1 0 fr .ready none ∧ x.2.2.2 ≤ 8 ∧ Wkr st' wid t x.1 x.2.1 x.2.2.1 (8 - (x.2.2.2 : Int)) ∧ x.2.2.1.length + 1024 * x.2.2.2 ≤ 100000 ∧ t.way last L a stk.reverse = t.way last x.2.2.2 x.1 x.2.2.1.reverse ∧ st.length ≤ st'.length)
    (a, lv, stk, L) ⟨rfl, rfl, rfl, hR, hL, hW, hs, rfl, Nat.le_refl _⟩ ?_
  rintro ⟨a1, lv1, stk1, L1⟩ fr1 st1 ⟨h0, h1, h3, hR1, hL1, hW1, hs1, hway, hlen⟩
  simp only [] at h3 hR1 hL1 hW1 hs1 hway
  have hlt := hR1.lt
  simp -dsimp only [↓R0, RA, simprocAttr, h3]
  apply hIf_d <;> intro h
  · obtain ⟨i, hi⟩ : ∃ i, stk1.length = i + 1 := ⟨stk1.length - 1, by omega⟩
    have e1 : IntKind.i64.wrap (((stk1.length : Nat) : Int) - 1) = (i : Int) := by rw [w64 (by omega) (by omega)]; omega
    obtain ⟨p, cs, o, g1, g2, g3⟩ := hW1.str.get (k := .i64) (i := i) (by omega)
    obtain ⟨lv2, g4, g5, g6⟩ := hW1.str.hi (k := .i64) (n := i) (by omega)
    have hW2 : Wkr (st1.set wid (.cells 0 true 163 [t.nd, .int .i64 t.mx, .int .i64 t.mb, .int .i64 a1, lv2, .int .i64 (8 - (L1 : Int))])) wid t a1 lv2 (stk1.take i) (8 - (L1 : Int)) :=
      ⟨get_set_eq hW1.blk, g5.mono fun j hj => get_set_ne fun e => hW1.ne (by rw [← g6, hj, e]), by rw [g6]; exact hW1.ne⟩
    have hR2 : Run k bs (st1.set wid (.cells 0 true 163 [t.nd, .int .i64 t.mx, .int .i64 t.mb, .int .i64 a1, lv2, .int .i64 (8 - (L1 : Int))])) n0 wid last lv2 0 fr .ready none := by
      have := hR1.wid (b := .cells 0 true 163 [t.nd, .int .i64 t.mx, .int .i64 t.mb, .int .i64 a1, lv2, .int .i64 (8 - (L1 : Int))])
      exact ⟨this.b0, this.b1, this.b2, this.b3, this.b4, this.f2, this.f3, this.f6, this.lt, fun j hj => this.lvs j (by rw [← g6]; exact hj), this.kw, fun j hj => this.kl j (by rw [← g6]; exact hj), this.fix⟩
    simp -dsimp only [↓R0, RA, simprocAttr, h, h0, h1, h3, hR1.b3, hW1.blk, e1, g1, g2, g3, g4, g5.cells]
    refine hYield_c (y138 (nm := stk1[i]) hT hR2 hL1 hW2 (by simp; omega)) ?_
    rintro d st2 ⟨hl2, (⟨rfl, a', lv', stk', L', hR3, hL3, hW3, hw3, hm3, hm4, hm5⟩ | ⟨rfl, e, lv', he, hR3, hw3⟩)⟩
    · simp -dsimp only [↓R0, RA, simprocAttr, un, h1, hR3.b3, hW3.blk, hW3.str.len]
      refine ⟨(a', lv', stk', L'), ?_, (by first | trivial | (simp -dsimp only [R1, simprocAttr, h0]; done) | rfl), (by first | trivial | (simp -dsimp only [R1, simprocAttr, h1]; done) | rfl), (by first | trivial | (simp -dsimp only [R1, simprocAttr]; done) | rfl), hR3, hL3, hW3, ?_, ?_, ?_⟩
      · simp at hm3 ⊢; omega
      · simp at hm4 ⊢; omega
      · rw [hway, stk_rev hi, hw3]
      · simp at hl2; omega
    · simp -dsimp only [↓R0, RA, simprocAttr, un]
      refine ⟨by simp at hl2; omega, .inr ⟨e, lv', he, hR3, ?_⟩⟩
      rw [hway, stk_rev hi, hw3]
  · have hnil : stk1 = [] := List.eq_nil_of_length_eq_zero (by omega)
    subst hnil
    simp -dsimp only [↓R0, RA, simprocAttr, h]
    refine ⟨hlen, .inl ⟨a1, lv1, _, hR1, hW1, ?_⟩⟩
    rw [hway, List.reverse_nil, Tr.way]
theorem d162 {st : Store} {wid : Nat} : Does1 C TP 162 [.ptr wid 0 0] st (.fn 173 [.ptr st.length 0 0]) (st ++ [.cells 0 true 156 [.ptr wid 0 0]]) := by
  refine does_of (call_th rfl rfl (body_h b162 (by show 1 ≤ 4; decide) ?_))
  simp -dsimp only [↓R0, RA, simprocAttr]
theorem app_get {st l : Store} {i : Nat} : (st ++ l)[st.length + i]? = l[i]? := by
  rw [List.getElem?_append_right (by omega), Nat.add_sub_cancel_left]
theorem app_get0 {st l : Store} : (st ++ l)[st.length]? = l[0]? := by
  rw [List.getElem?_append_right (Nat.le_refl _), Nat.sub_self]
theorem app_set {st l : Store} {i : Nat} {b : Blk} : (st ++ l).set (st.length + i) b = st ++ l.set i b := by
  rw [List.set_append_right _ _ (by omega), Nat.add_sub_cancel_left]
theorem app_set0 {st l : Store} {b : Blk} : (st ++ l).set st.length b = st ++ l.set 0 b := by
  rw [List.set_append_right _ _ (Nat.le_refl _), Nat.sub_self]
def RQ := And.intro @List.append_assoc.{0} <| And.intro @List.length_append.{0} <| And.intro @app_get <| And.intro @app_get0 <| And.intro @app_set @app_set0
theorem d138 {st : Store} {wid : Nat} {t : Tr} {last : Bool} {a : Int} {lv : D} {stk : List ByteArray} (hT : T t) (hW : Wkr st wid t a lv stk 0) (hl : ∀ i, idD lv = some i → i < st.length) (hs : stk.length ≤ 10000) {k : Nat} (hkw : k ≤ wid) (hkl : ∀ i, idD lv = some i → k ≤ i) :
    CallW C TP 138 [.ptr wid 0 0, .bool last] st fun d st' => (∀ i, i < k → st'[i]? = st[i]?) ∧ d = .tup [.int .i64 (t.way last 8 a stk.reverse).1, .int .i64 (t.way last 8 a stk.reverse).2] := by
  refine call_th rfl rfl (body_h b138 (by show 2 ≤ 88; decide) ?_)
  have hwl := get_lt hW.blk
  simp -dsimp only [↓R0, RA, simprocAttr, RQ, hCall_d d162]
  have hW' : ∀ g, Wkr (st ++ g) wid t a lv stk (8 - ((8 : Nat) : Int)) := fun g => ⟨get_app hW.blk, hW.str.grow, hW.ne⟩
  refine hBody_c (w173 (k := k) (bs := st) (n0 := st.length) (wid := wid) (t := t) (last := last) (a := a) (lv := lv) (stk := stk) (L := 8) (fr := _) hT
    ⟨by rw [app_get0]; rfl, by rw [app_get]; rfl, by rw [app_get]; rfl, by rw [app_get]; rfl, by rw [app_get]; rfl, rfl, rfl, rfl, hwl, fun i hi => .inl (hl i hi), hkw, hkl, fun i hi => List.getElem?_append_left (by omega)⟩ (Nat.le_refl _) (hW' _) (by omega)) ?_
  rintro _ st2 ⟨hlen, (⟨a', lv', l', hR, hW2, hw⟩ | ⟨e, lv', he, hR, hw⟩)⟩
  · have hR2 := hR.loop (ls' := .exhausted) (q' := none)
    have hW3 : ∀ b : Blk, (st2.set (st.length + 4) b)[wid]? = some (.cells 0 true 163 [t.nd, .int .i64 t.mx, .int .i64 t.mb, .int .i64 a', lv', .int .i64 l']) := fun b => (hW2.set (b := b) (by omega) (fun e => by have := hR.lvs _ e; omega)).blk
    simp -dsimp only [↓R0, RA, simprocAttr, RQ, pop_r hR.b4, hR2.b2, hR2.b0, hW3]
    rw [hw]
    exact ⟨hR2.fix, rfl⟩
  · have hR2 := hR.loop (ls' := .exhausted) (q' := some (.exit 0))
    simp -dsimp only [↓R0, RA, simprocAttr, RQ, pop_e hR.b4, hR2.b2, he]
    rw [hw]
    exact ⟨hR2.fix, rfl⟩
end
section
theorem s161 {s : ByteArray} : Gives C TP 161 [.str s] (.bool (decide (64 < (s.size : Int)))) := by
  refine gives_frz rfl rfl rfl (body_h b161 (by show 1 ≤ 6; decide) ?_)
  simp -dsimp only [↓R0, RA, simprocAttr]
  rfl
theorem d172 {st : Store} {d : D} {l : List ByteArray} (h : StrS st d l) (hl : l.length ≤ 1000000000) :
    CallW C TP 172 [d, .fn 161 []] st fun r st' => st' = st ∧ ∃ i : Int, r = .int .i64 i ∧ (0 ≤ i ↔ ∃ s ∈ l, 64 < s.size) := by
  refine call_th rfl rfl (body_h b172 (by show 2 ≤ 19; decide) ?_)
  simp -dsimp only [↓R0, RA, simprocAttr, h.len]
  refine hLoop_i (fun i : Nat => l.length - i) (fun i fr' st' => fr' 0 = d ∧ fr' 1 = .fn 161 [] ∧ fr' 7 = .int .i64 l.length ∧ fr' 8 = .int .i64 i ∧ i ≤ l.length ∧ (∀ s ∈ l.take i, ¬ 64 < s.size) ∧ st' = st) 0 ⟨rfl, rfl, rfl, rfl, by omega, by simp, rfl⟩ ?_
  rintro i fr st1 ⟨h0, h1, h7, h8, hi, hb, rfl⟩
  simp -dsimp only [↓R0, RA, simprocAttr, h7, h8]
  apply hIf_d <;> intro hc
  · have hil : i < l.length := by omega
    obtain ⟨p, cs, o, g1, g2, g3⟩ := h.get (k := .i64) hil
    simp -dsimp only [↓R0, RA, simprocAttr, hc, h0, h1, h8, g1, g2, g3, hC_g s161]
    apply hIf_d <;> intro h2
    · simp -dsimp only [↓R0, RA, simprocAttr, h8, h2]
      refine ⟨by first | trivial | rfl, (i : Int), rfl, fun _ => ⟨l[i], List.getElem_mem hil, by omega⟩, fun _ => by omega⟩
    · simp -dsimp (disch := ((try simp only [sz_sl, ByteArray.size_append]); omega)) only [↓R0, RA, simprocAttr, h2, h8, w64]
      refine ⟨i + 1, by omega, (by first | trivial | (simp -dsimp only [R1, simprocAttr, h0]; done) | rfl), (by first | trivial | (simp -dsimp only [R1, simprocAttr, h1]; done) | rfl), (by first | trivial | (simp -dsimp only [R1, simprocAttr, h7]; done) | rfl), (by first | trivial | (simp -dsimp only [R1, simprocAttr]; done) | rfl), by omega, ?_, by first | trivial | rfl⟩
      intro s hs
      rw [List.take_add_one, List.getElem?_eq_getElem hil] at hs
      rcases List.mem_append.1 hs with hs | hs
      · exact hb s hs
      · have : s = l[i] := by simpa using hs
        subst this; omega
  · have : i = l.length := by omega
    subst this
    rw [List.take_length] at hb
    simp -dsimp only [↓R0, RA, simprocAttr, hc]
    refine ⟨by first | trivial | rfl, -1, rfl, fun h => by omega, fun ⟨s, hs, h2⟩ => absurd h2 (hb s hs)⟩
theorem d160 {st : Store} {d : D} {l : List ByteArray} (h : StrS st d l) (hl : l.length ≤ 1000000000) :
    Does1 C TP 160 [d, .fn 161 []] st (.bool (decide (∃ s ∈ l, 64 < s.size))) st := by
  refine does_of (call_th rfl rfl (body_h b160 (by show 2 ≤ 9; decide) ?_))
  simp -dsimp only [↓R0, RA, simprocAttr]
  refine hCall_c (d172 h hl) ?_
  rintro r st' ⟨rfl, i, rfl, hi⟩
  simp -dsimp only [↓R0, RA, simprocAttr]
  exact ⟨by rw [decide_eq_decide.2 hi], by first | trivial | rfl⟩
def Tr.bad (t : Tr) (cwd : Int) (p : ByteArray) : Int :=
  if p = emS ∨ ¬ t.dir cwd then 2 else if 1024 < p.size then 36 else if ∃ s ∈ parts p, 64 < s.size then 36 else 0
def beg (cwd : Int) (p : ByteArray) : Int := if whole p then 0 else cwd
theorem Tr.bad_size {t : Tr} {cwd : Int} {p : ByteArray} (h : t.bad cwd p = 0) : p ≠ emS ∧ t.dir cwd ∧ p.size ≤ 1024 := by
  unfold Tr.bad at h
  split at h
  · simp at h
  · split at h
    · simp at h
    · rename_i h1 h2
      simp only [not_or, Classical.not_not] at h1
      exact ⟨h1.1, h1.2, by omega⟩
theorem d136 {st : Store} {t : Tr} {cwd : Int} {p : ByteArray} (hT : T t) (hp : p.size ≤ 9223372036854775807) :
    CallW C TP 136 [t.d, .int .i64 cwd, .str p] st fun d st' => (∀ i, i < st.length → st'[i]? = st[i]?) ∧ ((t.bad cwd p ≠ 0 ∧ d = .tup [.nilp, .int .i64 (t.bad cwd p)]) ∨
      (t.bad cwd p = 0 ∧ ∃ wid lv, d = .tup [.ptr wid 0 0, .int .i64 0] ∧ Wkr st' wid t (beg cwd p) lv (parts p).reverse 0 ∧ st.length ≤ wid ∧ ∀ i, idD lv = some i → st.length ≤ i ∧ i < st'.length)) := by
  refine call_th rfl rfl (body_h b136 (by show 3 ≤ 35; decide) ?_)
  simp -dsimp only [↓R0, RA, simprocAttr, RQ]
  apply hIf_d <;> intro h1
  · simp -dsimp only [↓R0, RA, simprocAttr, RQ, decide_eq_true h1]
    have e : t.bad cwd p = 2 := by unfold Tr.bad; rw [if_pos (.inl h1)]
    rw [e]
    exact ⟨fun i hi => List.getElem?_append_left hi, .inl ⟨by decide, rfl⟩⟩
  · simp -dsimp only [↓R0, RA, simprocAttr, RQ, h1, hCall_g (s139 hT.ok), un]
    apply hIf_d <;> intro h2
    · simp -dsimp only [↓R0, RA, simprocAttr, RQ, h1, h2]
      apply hIf_d <;> intro h3
      · simp -dsimp only [↓R0, RA, simprocAttr, RQ, h3]
        have e : t.bad cwd p = 36 := by unfold Tr.bad; rw [if_neg (by simp [h1, h2]), if_pos (by omega)]
        rw [e]
        exact ⟨fun i hi => List.getElem?_append_left hi, .inl ⟨by decide, rfl⟩⟩
      · simp -dsimp only [↓R0, RA, simprocAttr, RQ, h3]
        have hW : Wkr (st ++ [Blk.cells 0 true 24 t.c, Blk.cells 0 true 163 [t.nd, .int .i64 t.mx, .int .i64 t.mb, .int .i64 cwd, .nils, .int .i64 0]]) (st.length + 1) t cwd .nils [] 0 :=
          ⟨by rw [app_get]; rfl, .inl ⟨rfl, rfl⟩, by simp [idD]⟩
        refine hCall_c (d159 (p := p) hW (by omega) (by simp)) ?_
        rintro _ st2 ⟨lv', hW2, hE⟩
        rw [List.nil_append] at hW2
        have hpl := parts_len (p := p)
        have hlen := hE.1
        simp at hlen
        have hfr : ∀ i, i < st.length → st2[i]? = st[i]? := fun i hi => by
          rw [hE.2.1 i (by simp; omega) (by omega) (by simp [idD]), List.getElem?_append_left hi]
        have hids : ∀ i, idD lv' = some i → st.length ≤ i ∧ i < st2.length := by
          intro i hi
          constructor
          · rcases hE.2.2 with h | ⟨j, h, h'⟩
            · rw [h] at hi; simp [idD] at hi
            · rw [h] at hi; injection hi with hi; simp at h'; omega
          · rcases hW2.str with ⟨rfl, _⟩ | ⟨id, ver, off, cs, rfl, g, _⟩
            · simp [idD] at hi
            · simp [idD] at hi; subst hi; exact get_lt g
        have hex : (∃ s ∈ (parts p).reverse, 64 < s.size) ↔ ∃ s ∈ parts p, 64 < s.size := by simp
        simp -dsimp only [↓R0, RA, simprocAttr, RQ, hW2.blk, hCall_d (d160 hW2.str (by simp; omega))]
        apply hIf_d <;> intro h4
        · simp -dsimp only [↓R0, RA, simprocAttr, RQ]
          have e : t.bad cwd p = 36 := by unfold Tr.bad; rw [if_neg (by simp [h1, h2]), if_neg (by omega), if_pos (hex.1 h4)]
          rw [e]
          exact ⟨hfr, .inl ⟨by decide, rfl⟩⟩
        · simp -dsimp only [↓R0, RA, simprocAttr, RQ]
          have e : t.bad cwd p = 0 := by unfold Tr.bad; rw [if_neg (by simp [h1, h2]), if_neg (by omega), if_neg (fun h => h4 (hex.2 h))]
          exact ⟨hfr, .inr ⟨e, st.length + 1, lv', rfl, hW2, by omega, hids⟩⟩
    · simp -dsimp only [↓R0, RA, simprocAttr, RQ, h2]
      have e : t.bad cwd p = 2 := by unfold Tr.bad; rw [if_pos (.inr h2)]
      rw [e]
      exact ⟨fun i hi => List.getElem?_append_left hi, .inl ⟨by decide, rfl⟩⟩
def Tr.walk (t : Tr) (cwd : Int) (p : ByteArray) (follow : Bool) : Int × Int :=
  if t.bad cwd p ≠ 0 then (0, t.bad cwd p) else
  let r := t.way (follow || decide (slashed p)) 8 (beg cwd p) (parts p)
  if r.2 = 0 ∧ slashed p ∧ ¬ t.dir r.1 then (0, 20) else r
theorem way_nil {t : Tr} {last : Bool} {L : Nat} {a : Int} : t.way last L a [] = (a, 0) := by rw [Tr.way.eq_def]
theorem way_cons {t : Tr} {last : Bool} {L : Nat} {a : Int} {nm : ByteArray} {r : List ByteArray} : t.way last L a (nm :: r) =
    if (t.step a nm).2 ≠ 0 then (0, (t.step a nm).2) else
    if (t.at (t.step a nm).1).kind ≠ 3 ∨ (r = [] ∧ last = false) then t.way last L (t.step a nm).1 r else
    match L with
    | 0 => (0, 40)
    | L + 1 => t.way last L (if whole (t.at (t.step a nm).1).data then 0 else a) (parts (t.at (t.step a nm).1).data ++ r) := by
  rw [Tr.way.eq_def] <;> rfl
theorem T.way_end {t : Tr} (hT : T t) {last : Bool} : ∀ {L : Nat} {a : Int} {names : List ByteArray}, t.live a → ((t.way last L a names).2 = 0 → t.live (t.way last L a names).1) ∧ ((t.way last L a names).2 ≠ 0 → (t.way last L a names).1 = 0) := by
  intro L a names
  induction L, a, names using Tr.way.induct t last with
  | case1 L a => intro ha; rw [way_nil]; exact ⟨fun _ => ha, fun h => absurd rfl h⟩
  | case2 L a nm r h1 => intro ha; rw [way_cons, if_pos h1]; exact ⟨fun h => absurd h h1, fun _ => rfl⟩
  | case3 L a nm r h1 h2 ih => intro ha; rw [way_cons, if_neg h1, if_pos h2]; exact ih (hT.step_live (by simpa using h1))
  | case4 a nm r h1 h2 => intro ha; rw [way_cons, if_neg h1, if_neg h2]; exact ⟨fun h => by simp at h, fun _ => rfl⟩
  | case5 a nm r h1 h2 L ih =>
    intro ha
    rw [way_cons, if_neg h1, if_neg h2]
    refine ih ?_
    split
    · exact Tr.dir_live hT.dir0
    · exact ha
theorem ref4 {t : Tr} (ok : t.Ok) {k : Int} {s : ByteArray} {b : Bool} : refsL [t.d, .int .i64 k, .str s, .bool b] = [] := by simp only [refsL, refs, Tr.d, Tr.c, ok.ref, List.append_nil]
theorem s96 {t : Tr} {cwd : Int} {p : ByteArray} {follow : Bool} (hT : T t) (hp : p.size ≤ 9223372036854775807) :
    Gives C TP 96 [t.d, .int .i64 cwd, .str p, .bool follow] (.tup [.int .i64 (t.walk cwd p follow).1, .int .i64 (t.walk cwd p follow).2]) := by
  refine gives_frz rfl rfl (ref4 hT.ok) (body_h b96 (by show 4 ≤ 48; decide) ?_)
  simp -dsimp only [↓R0, RA, simprocAttr]
  refine hCall_c (d136 hT hp) ?_
  rintro d st ⟨hfr, (⟨hb, rfl⟩ | ⟨hb, wid, lv, rfl, hW, hw1, hid⟩)⟩
  · simp -dsimp only [↓R0, RA, simprocAttr, hb]
    unfold Tr.walk
    rw [if_pos hb]; rfl
  · have h0 := hfr 0 (by simp)
    have hs := (Tr.bad_size hb).2.2
    have hpl := parts_len (p := p)
    have e0 : decide ((0 : Int) = 0) = true := rfl
    simp only [List.length_cons, List.length_nil, Nat.zero_add] at hw1 hid
    simp -dsimp only [↓R0, RA, simprocAttr, e0, hCall_g (s137 hp)]
    have fin : ∀ (K : D → Store → Prop) (l : Bool), l = (follow || decide (slashed p)) →
        (∀ st', st'[0]? = some (.cells 0 true 24 t.c) → K (.tup [.int .i64 (t.way (follow || decide (slashed p)) 8 (beg cwd p) (parts p)).1, .int .i64 (t.way (follow || decide (slashed p)) 8 (beg cwd p) (parts p)).2]) st') → ∀ u : Dep K, hCall C TP 138 [.ptr wid 0 0, .bool l] st K u := by
      intro K l hl hk u
      subst hl
      refine hCall_c (d138 (last := (follow || decide (slashed p))) hT hW (fun i hi => (hid i hi).2) (by simp; omega) (k := 1) hw1 (fun i hi => (hid i hi).1)) ?_
      rintro d st' ⟨hf, rfl⟩
      rw [List.reverse_reverse]
      exact hk st' (by rw [hf 0 (by omega), h0]; rfl)
    cases follow
    · by_cases hsl : slashed p
      · simp -dsimp only [↓R0, RA, simprocAttr, decide_eq_true hsl]
        refine fin _ _ (by first | rfl | (simp [hsl]; done) | (simp; done)) (fun st' hst' => ?_) _
        have hw : t.walk cwd p false = if (t.way (false || decide (slashed p)) 8 (beg cwd p) (parts p)).2 = 0 ∧ slashed p ∧ ¬ t.dir (t.way (false || decide (slashed p)) 8 (beg cwd p) (parts p)).1 then (0, 20) else t.way (false || decide (slashed p)) 8 (beg cwd p) (parts p) := by
          unfold Tr.walk
          rw [if_neg (by simp [hb])]
        rw [hw]
        generalize t.way (false || decide (slashed p)) 8 (beg cwd p) (parts p) = r at *
        obtain ⟨k, e⟩ := r
        simp only []
        simp -dsimp only [↓R0, RA, simprocAttr]
        apply hIf_d <;> intro h1
        · simp -dsimp only [↓R0, RA, simprocAttr, decide_eq_true h1]
          apply hIf_d <;> intro h2
          · simp -dsimp only [↓R0, RA, simprocAttr, decide_eq_true h1, h2, hst', hCall_g (s139 hT.ok), un]
            apply hIf_d <;> intro h3
            · simp -dsimp only [↓R0, RA, simprocAttr, h3]
              first | (rw [if_neg (by simp [h3])]; rfl) | (rw [if_neg (by simp)]; rfl)
            · simp -dsimp only [↓R0, RA, simprocAttr, h3]
              rw [if_pos ⟨h1, h2, by first | exact h3 | exact not_false⟩]; rfl
          · simp -dsimp only [↓R0, RA, simprocAttr, h2]
            rw [if_neg (by simp [h2])]; rfl
        · simp -dsimp only [↓R0, RA, simprocAttr, h1]
          rw [if_neg (by simp [h1])]; rfl
      · simp -dsimp only [↓R0, RA, simprocAttr, hsl]
        refine fin _ _ (by first | rfl | (simp [hsl]; done) | (simp; done)) (fun st' hst' => ?_) _
        have hw : t.walk cwd p false = if (t.way (false || decide (slashed p)) 8 (beg cwd p) (parts p)).2 = 0 ∧ slashed p ∧ ¬ t.dir (t.way (false || decide (slashed p)) 8 (beg cwd p) (parts p)).1 then (0, 20) else t.way (false || decide (slashed p)) 8 (beg cwd p) (parts p) := by
          unfold Tr.walk
          rw [if_neg (by simp [hb])]
        rw [hw]
        generalize t.way (false || decide (slashed p)) 8 (beg cwd p) (parts p) = r at *
        obtain ⟨k, e⟩ := r
        simp only []
        simp -dsimp only [↓R0, RA, simprocAttr]
        apply hIf_d <;> intro h1
        · simp -dsimp only [↓R0, RA, simprocAttr, decide_eq_true h1]
          apply hIf_d <;> intro h2
          · simp -dsimp only [↓R0, RA, simprocAttr, decide_eq_true h1, h2, hst', hCall_g (s139 hT.ok), un]
            apply hIf_d <;> intro h3
            · simp -dsimp only [↓R0, RA, simprocAttr, h3]
              first | (rw [if_neg (by simp [h3])]; rfl) | (rw [if_neg (by simp)]; rfl)
            · simp -dsimp only [↓R0, RA, simprocAttr, h3]
              rw [if_pos ⟨h1, h2, by first | exact h3 | exact not_false⟩]; rfl
          · simp -dsimp only [↓R0, RA, simprocAttr, h2]
            rw [if_neg (by simp [h2])]; rfl
        · simp -dsimp only [↓R0, RA, simprocAttr, h1]
          rw [if_neg (by simp [h1])]; rfl
    · simp -dsimp only [↓R0, RA, simprocAttr]
      refine fin _ _ (by first | rfl | (simp [hsl]; done) | (simp; done)) (fun st' hst' => ?_) _
      have hw : t.walk cwd p true = if (t.way (true || decide (slashed p)) 8 (beg cwd p) (parts p)).2 = 0 ∧ slashed p ∧ ¬ t.dir (t.way (true || decide (slashed p)) 8 (beg cwd p) (parts p)).1 then (0, 20) else t.way (true || decide (slashed p)) 8 (beg cwd p) (parts p) := by
        unfold Tr.walk
        rw [if_neg (by simp [hb])]
      rw [hw]
      generalize t.way (true || decide (slashed p)) 8 (beg cwd p) (parts p) = r at *
      obtain ⟨k, e⟩ := r
      simp only []
      simp -dsimp only [↓R0, RA, simprocAttr]
      apply hIf_d <;> intro h1
      · simp -dsimp only [↓R0, RA, simprocAttr, decide_eq_true h1]
        apply hIf_d <;> intro h2
        · simp -dsimp only [↓R0, RA, simprocAttr, decide_eq_true h1, h2, hst', hCall_g (s139 hT.ok), un]
          apply hIf_d <;> intro h3
          · simp -dsimp only [↓R0, RA, simprocAttr, h3]
            first | (rw [if_neg (by simp [h3])]; rfl) | (rw [if_neg (by simp)]; rfl)
          · simp -dsimp only [↓R0, RA, simprocAttr, h3]
            rw [if_pos ⟨h1, h2, by first | exact h3 | exact not_false⟩]; rfl
        · simp -dsimp only [↓R0, RA, simprocAttr, h2]
          rw [if_neg (by simp [h2])]; rfl
      · simp -dsimp only [↓R0, RA, simprocAttr, h1]
        rw [if_neg (by simp [h1])]; rfl
end
section
def Tr.parent (t : Tr) (cwd : Int) (p : ByteArray) : Int × ByteArray × Int :=
  if t.bad cwd p ≠ 0 then (0, emS, t.bad cwd p) else
  match (parts p).reverse with
  | [] => (0, emS, 17)
  | nm :: r =>
    let w := t.way true 8 (beg cwd p) r.reverse
    if w.2 ≠ 0 then (0, emS, w.2) else if ¬ t.dir w.1 then (0, emS, 20) else (w.1, nm, 0)
theorem s99 {t : Tr} {cwd : Int} {p : ByteArray} (hT : T t) (hp : p.size ≤ 9223372036854775807) :
    Gives C TP 99 [t.d, .int .i64 cwd, .str p] (.tup [.int .i64 (t.parent cwd p).1, .str (t.parent cwd p).2.1, .int .i64 (t.parent cwd p).2.2]) := by
  refine gives_frz rfl rfl (ref3 hT.ok) (body_h b99 (by show 3 ≤ 63; decide) ?_)
  have hpar : t.parent cwd p = _ := Tr.parent.eq_def t cwd p
  simp -dsimp only [↓R0, RA, simprocAttr]
  refine hCall_c (d136 hT hp) ?_
  rintro d st ⟨hfr, (⟨hb, rfl⟩ | ⟨hb, wid, lv, rfl, hW, hw1, hid⟩)⟩
  · simp -dsimp only [↓R0, RA, simprocAttr, hb]
    rw [if_pos hb] at hpar
    rw [hpar]; rfl
  · have h0 := hfr 0 (by simp)
    have hs := (Tr.bad_size hb).2.2
    have hpl := parts_len (p := p)
    have e0 : decide ((0 : Int) = 0) = true := rfl
    simp only [List.length_cons, List.length_nil, Nat.zero_add] at hw1 hid
    rw [if_neg (by simp [hb])] at hpar
    have hll : ((parts p).reverse).length ≤ 1024 := by simp; omega
    generalize (parts p).reverse = l at *
    simp -dsimp only [↓R0, RA, simprocAttr, e0, hW.blk, hW.str.len]
    cases l with
    | nil =>
      simp -dsimp only [↓R0, RA, simprocAttr]
      try refine hIf_d (fun h => ?_) (fun h => absurd rfl h)
      try simp -dsimp only [↓R0, RA, simprocAttr]
      rw [hpar]; rfl
    | cons nm r =>
      refine hIf_d (fun h => absurd h (by simp; omega)) (fun h => ?_)
      obtain ⟨q, cs, o, g1, g2, g3⟩ := hW.str.get (k := .i64) (i := 0) (by simp)
      obtain ⟨lv2, g4, g5, g6⟩ := hW.str.lo (k := .i64) (by simp)
      have g1' : idxS 1 lv (.int .i64 0) = some q := g1
      simp -dsimp only [↓R0, RA, simprocAttr, h, e0, hW.blk, g1', g2, g3, g4, g5.cells]
      have hW2 : Wkr (st.set wid (.cells 0 true 163 [t.nd, .int .i64 t.mx, .int .i64 t.mb, .int .i64 (beg cwd p), lv2, .int .i64 0])) wid t (beg cwd p) lv2 r 0 :=
        ⟨get_set_eq hW.blk, g5.mono fun j hj => get_set_ne fun e => hW.ne (by rw [← g6, hj, e]), by rw [g6]; exact hW.ne⟩
      refine hCall_c (d138 (last := true) hT hW2 (fun i hi => by rw [List.length_set]; exact (hid i (by rw [← g6]; exact hi)).2) (by simp at hll; omega) (k := 1) hw1 (fun i hi => (hid i (by rw [← g6]; exact hi)).1)) ?_
      rintro d st' ⟨hf, rfl⟩
      have hst' : st'[0]? = some (.cells 0 true 24 t.c) := by rw [hf 0 (by omega), get_set_ne (by omega), h0]; rfl
      simp only [] at hpar
      generalize t.way true 8 (beg cwd p) r.reverse = w at *
      obtain ⟨k, e⟩ := w
      simp only [] at hpar
      simp -dsimp only [↓R0, RA, simprocAttr]
      apply hIf_d <;> intro h1
      · have e20 : decide ((20 : Int) = 0) = false := rfl
        simp -dsimp only [↓R0, RA, simprocAttr, decide_eq_true h1, hst', hCall_g (s139 hT.ok), un]
        apply hIf_d <;> intro h2
        · simp -dsimp only [↓R0, RA, simprocAttr, decide_eq_true h1, decide_eq_true h2]
          rw [if_neg (by simp [h1]), if_neg (by simp [h2])] at hpar
          rw [hpar]; rfl
        · simp -dsimp only [↓R0, RA, simprocAttr, h2, e20]
          rw [if_neg (by simp [h1]), if_pos h2] at hpar
          rw [hpar]; rfl
      · simp -dsimp only [↓R0, RA, simprocAttr, h1]
        rw [if_pos h1] at hpar
        rw [hpar]; rfl
end
section
theorem of47 : UInt8.ofNat (Int.toNat 47) = 47 := rfl
theorem of0 : UInt8.ofNat (Int.toNat 0) = 0 := rfl
theorem s100 {s : ByteArray} : Gives C TP 100 [.str s] (.bool (decide (NameOk s))) := by
  refine gives_frz rfl rfl rfl (body_h b100 (by show 1 ≤ 28; decide) ?_)
  simp -dsimp only [↓R0, RA, simprocAttr]
  have fin : ∀ (st : Store) (b : Bool), (b = true ↔ NameOk s) → fz st 8 (.bool b) = some (.bool (decide (NameOk s))) := by
    intro st b hb
    rw [fz_b]
    congr 2
    cases b <;> simp_all
  have n47 := ixB_neg (c := 47) (l := bl s)
  have n0 := ixB_neg (c := 0) (l := bl s)
  apply hIf_d <;> intro h1
  · simp -dsimp only [↓R0, RA, simprocAttr, decide_eq_true h1]
    refine fin _ _ ?_
    rw [nameOk_iff]; simp [h1]
  · simp -dsimp only [↓R0, RA, simprocAttr, h1]
    apply hIf_d <;> intro h2
    · simp -dsimp only [↓R0, RA, simprocAttr, h1, h2]
      apply hIf_d <;> intro h3
      · simp -dsimp only [↓R0, RA, simprocAttr, h1, h2, decide_eq_true h3]
        refine fin _ _ ?_
        rw [nameOk_iff]; simp [h3]
      · simp -dsimp only [↓R0, RA, simprocAttr, h1, h2, h3]
        apply hIf_d <;> intro h4
        · simp -dsimp only [↓R0, RA, simprocAttr, h1, h2, h3, decide_eq_true h4]
          refine fin _ _ ?_
          rw [nameOk_iff]; simp [h4]
        · simp -dsimp only [↓R0, RA, simprocAttr, h1, h2, h3, h4, hCall_g (s36 (s := s)), of47]
          apply hIf_d <;> intro h5
          · simp -dsimp only [↓R0, RA, simprocAttr, h1, h2, h3, h4, h5, hCall_g (s36 (s := s)), of0]
            refine fin _ _ ?_
            rw [nameOk_iff, decide_eq_true_eq]
            have : s.size ≤ 64 := by omega
            exact ⟨fun h => ⟨h1, this, h3, h4, n47.1 h5, n0.1 h⟩, fun h => n0.2 h.2.2.2.2.2⟩
          · simp -dsimp only [↓R0, RA, simprocAttr, h1, h2, h3, h4, h5]
            refine fin _ _ ?_
            rw [nameOk_iff]
            have : ¬ 47 ∉ bl s := fun h => h5 (n47.2 h)
            simp at this
            simp [this]
    · simp -dsimp only [↓R0, RA, simprocAttr, h1, h2]
      refine fin _ _ ?_
      rw [nameOk_iff]
      have : ¬ s.size ≤ 64 := by omega
      simp [this]
theorem s120 {m : Int} : Gives C TP 120 [.int .i64 m] (.bool (!decide (0 ≤ m ∧ m ≤ 7))) := by
  refine gives_frz rfl rfl rfl (body_h b120 (by show 1 ≤ 6; decide) ?_)
  simp -dsimp only [↓R0, RA, simprocAttr, shr3]
  rw [fz_b, decide_eq_decide.2 fdiv8]
def Tr.fresh (t : Tr) (cwd : Int) (p : ByteArray) (dirs : Bool) : Int × ByteArray × Int :=
  let q := t.parent cwd p
  if q.2.2 ≠ 0 then q else
  if (q.2.1 = ⟨#[46]⟩ ∨ q.2.1 = ⟨#[46, 46]⟩) ∨ 0 ≤ t.kid q.1 q.2.1 then (q.1, q.2.1, 17) else
  if ¬ NameOk q.2.1 then (q.1, q.2.1, 22) else
  if ¬ t.may q.1 3 then (q.1, q.2.1, 13) else
  if dirs = false ∧ slashed p then (q.1, q.2.1, 20) else (q.1, q.2.1, 0)
theorem s113 {t : Tr} {cwd : Int} {p : ByteArray} {dirs : Bool} (hT : T t) (hp : p.size ≤ 9223372036854775807) :
    Gives C TP 113 [t.d, .int .i64 cwd, .str p, .bool dirs] (.tup [.int .i64 (t.fresh cwd p dirs).1, .str (t.fresh cwd p dirs).2.1, .int .i64 (t.fresh cwd p dirs).2.2]) := by
  refine gives_frz rfl rfl (ref4 hT.ok) (body_h b113 (by show 4 ≤ 58; decide) ?_)
  have hfr : t.fresh cwd p dirs = _ := Tr.fresh.eq_def t cwd p dirs
  have g99 := s99 (cwd := cwd) hT hp
  generalize t.parent cwd p = q at *
  obtain ⟨d, nm, e⟩ := q
  simp only [] at hfr g99
  simp -dsimp only [↓R0, RA, simprocAttr, hCall_g g99]
  apply hIf_d <;> intro h1
  · rw [if_neg (by simp [h1])] at hfr
    simp -dsimp only [↓R0, RA, simprocAttr, decide_eq_true h1]
    apply hIf_d <;> intro h2
    · rw [if_pos (.inl (.inl h2))] at hfr
      simp -dsimp only [↓R0, RA, simprocAttr, decide_eq_true h2]
      rw [hfr]; rfl
    · simp -dsimp only [↓R0, RA, simprocAttr, h2]
      apply hIf_d <;> intro h3
      · rw [if_pos (.inl (.inr h3))] at hfr
        simp -dsimp only [↓R0, RA, simprocAttr, h2, decide_eq_true h3]
        rw [hfr]; rfl
      · simp -dsimp only [↓R0, RA, simprocAttr, h2, h3, hCall_g (s104 hT)]
        apply hIf_d <;> intro h4
        · rw [if_pos (.inr h4)] at hfr
          simp -dsimp only [↓R0, RA, simprocAttr, h2, h3]
          rw [hfr]; rfl
        · rw [if_neg (by simp [h2, h3]; omega)] at hfr
          simp -dsimp only [↓R0, RA, simprocAttr, h2, h3, hCall_g s100, un]
          apply hIf_d <;> intro h5
          · rw [if_neg (by simp [h5])] at hfr
            simp -dsimp only [↓R0, RA, simprocAttr, h5, hCall_g (s79 hT.ok hT.modes (by decide : (0 : Int) ≤ 3 ∧ (3 : Int) ≤ 7)), un]
            apply hIf_d <;> intro h6
            · rw [if_neg (by simp [h6])] at hfr
              simp -dsimp only [↓R0, RA, simprocAttr, h6]
              cases dirs with
              | true =>
                rw [if_neg (by simp)] at hfr
                simp -dsimp only [↓R0, RA, simprocAttr, decide_eq_true h1, un]
                rw [hfr, h1]; rfl
              | false =>
                simp -dsimp only [↓R0, RA, simprocAttr, hCall_g (s137 hp), un]
                apply hIf_d <;> intro h7
                · rw [if_pos ⟨rfl, h7⟩] at hfr
                  simp -dsimp only [↓R0, RA, simprocAttr]
                  rw [hfr]; rfl
                · rw [if_neg (by simp [h7])] at hfr
                  simp -dsimp only [↓R0, RA, simprocAttr]
                  rw [hfr, h1]; rfl
            · rw [if_pos h6] at hfr
              simp -dsimp only [↓R0, RA, simprocAttr, h6]
              rw [hfr]; rfl
          · rw [if_pos h5] at hfr
            simp -dsimp only [↓R0, RA, simprocAttr, h5]
            rw [hfr]; rfl
  · rw [if_pos h1] at hfr
    simp -dsimp only [↓R0, RA, simprocAttr, h1]
    rw [hfr]; rfl
end
section
theorem min_i {P : Program} {st : Store} {ts : List TypeId} {a b : Int} : builtinD P st .min ts [.int .i64 a, .int .i64 b] = some (.int .i64 (if b < a then b else a), st) := by
  cases ts <;> rfl
theorem T.sum_le {t : Tr} (h : T t) : t.sum ≤ 65536 := by have := h.fit.bytes; have := h.fit.mb1; omega
theorem sum_take {l : List Nat} {i : Nat} (h : i < l.length) : (l.take (i + 1)).sum = (l.take i).sum + l[i] := by
  have e : l.take (i + 1) = l.take i ++ [l[i]] := by rw [List.take_add_one, List.getElem?_eq_getElem h]; rfl
  rw [e, List.sum_append]
  simp only [List.sum_cons, List.sum_nil, Nat.add_zero]
theorem sum_take_le (l : List Nat) (i : Nat) : (l.take i).sum ≤ l.sum := by
  conv => rhs; rw [← List.take_append_drop i l, List.sum_append]
  omega
theorem at_nat {t : Tr} {i : Nat} (h : i < t.nodes.length) : t.at (i : Int) = t.nodes[i] := by
  unfold Tr.at
  rw [Int.toNat_natCast, List.getD_eq_getElem?_getD, List.getElem?_eq_getElem h]; rfl
theorem has_nat {t : Tr} {i : Nat} (h : i < t.nodes.length) : t.has (i : Int) := ⟨by omega, by unfold Tr.n; omega⟩
def Tr.part (t : Tr) (i : Nat) : Nat := ((t.nodes.map fun y => y.data.size).take i).sum
theorem Tr.part_succ {t : Tr} {i : Nat} (h : i < t.nodes.length) : t.part (i + 1) = t.part i + (t.at (i : Int)).data.size := by
  unfold Tr.part
  rw [sum_take (by simpa using h)]
  simp [at_nat h]
theorem Tr.part_le {t : Tr} {i : Nat} : t.part i ≤ t.sum := sum_take_le _ _
theorem Tr.part_all {t : Tr} : t.part t.nodes.length = t.sum := by
  unfold Tr.part Tr.sum
  rw [List.take_of_length_le (by simp)]
theorem s150 {t : Tr} (hT : T t) : ∃ n : Int, Gives C TP 150 [t.d] (.tup [.int .i64 n, .int .i64 t.sum]) := by
  have main : ∃ d, Gives C TP 150 [t.d] d ∧ ∃ n : Int, d = .tup [.int .i64 n, .int .i64 t.sum] := by
    refine frz_ex rfl rfl (by simp only [refsL, refs, Tr.d, Tr.c, hT.ok.ref, List.append_nil]) (body_h b150 (by show 1 ≤ 28; decide) ?_)
    simp -dsimp only [↓R0, RA, simprocAttr, RQ, hT.ok.nd.lnV]
    refine hLoop_i (fun x : Nat × Int => t.nodes.length - x.1) (fun x fr' st' => fr' 9 = t.nd ∧ fr' 10 = .int .i64 t.nodes.length ∧ fr' 11 = .int .i64 x.1 ∧ fr' 4 = .int .i64 x.2 ∧
      fr' 5 = .int .i64 (t.part x.1 : Nat) ∧ x.1 ≤ t.nodes.length ∧ 0 ≤ x.2 ∧ x.2 ≤ x.1) (0, 0) ⟨rfl, rfl, rfl, rfl, rfl, by omega, by simp, by simp⟩ ?_
    rintro ⟨i, n⟩ fr st ⟨h9, h10, h11, h4, h5, hi, hn0, hn1⟩
    simp only [] at h11 h4 h5 hi hn0 hn1
    have hlen := hT.n
    simp -dsimp only [↓R0, RA, simprocAttr, RQ, h10, h11]
    apply hIf_d <;> intro hc
    · have hil : i < t.nodes.length := by omega
      have hk := has_nat hil
      have hs := Tr.part_le (t := t) (i := i + 1)
      have hps := Tr.part_succ hil
      have hsum := hT.sum_le
      have hkind := (hT.fit.one _ hk).1.kind
      simp -dsimp (disch := ((try simp only [sz_sl, ByteArray.size_append]); omega)) only [↓R0, RA, simprocAttr, RQ, h9, h10, h11, h4, h5, hc, Tr.ixh hT.ok hk, Tr.crow hk, Tr.cle hk, Ino.row, min_i, w64]
      have hw1 : IntKind.i64.wrap (n + if 1 < (t.at (i : Int)).kind then 1 else (t.at (i : Int)).kind) = n + if 1 < (t.at (i : Int)).kind then 1 else (t.at (i : Int)).kind := by
        apply w64 <;> split <;> omega
      refine ⟨(i + 1, n + if 1 < (t.at (i : Int)).kind then 1 else (t.at (i : Int)).kind), by simp only []; omega, (by first | trivial | (simp -dsimp only [R1, simprocAttr, h9]; done) | rfl), (by first | trivial | (simp -dsimp only [R1, simprocAttr, h10]; done) | rfl), (by first | trivial | (simp -dsimp only [R1, simprocAttr]; done) | rfl), ?_, ?_, by simp only []; omega, ?_, ?_⟩
      · first | (simp -dsimp only [R1, ↓reduceIte, Nat.reduceEqDiff, hw1]; done) | rw [hw1]
      · simp only []
        rw [hps]
        first | rfl | (simp -dsimp only [R1, ↓reduceIte, Nat.reduceEqDiff]; rfl)
      · simp only []; split <;> omega
      · simp only []; split <;> omega
    · have hil : i = t.nodes.length := by omega
      subst hil
      rw [Tr.part_all] at h5
      simp -dsimp only [↓R0, RA, simprocAttr, hc, h4, h5]
      exact ⟨_, fz_0 (by simp [refs, refsL]), n, rfl⟩
  obtain ⟨d, hd, n, rfl⟩ := main
  exact ⟨n, hd⟩
end
section
theorem lay24 : lay TP 24 = some (true, 3) := by kernel_rfl
theorem lay38 : lay TP 38 = some (true, 6) := by kernel_rfl
theorem lay104 : lay TP 104 = some (true, 3) := by kernel_rfl
theorem ld24 {cs : List D} {o : Nat} : ld TP 24 cs o = if o + 3 ≤ cs.length then some (.agg ((cs.drop o).take 3)) else none := ld_agg lay24 cs o
theorem ld38 {cs : List D} {o : Nat} : ld TP 38 cs o = if o + 6 ≤ cs.length then some (.agg ((cs.drop o).take 6)) else none := ld_agg lay38 cs o
theorem ld104 {cs : List D} {o : Nat} : ld TP 104 cs o = if o + 3 ≤ cs.length then some (.agg ((cs.drop o).take 3)) else none := ld_agg lay104 cs o
theorem s152 {x : Ino} (h : refs x.kd = []) : Gives C TP 152 [.agg x.row] (.bool (decide (x.kind = 0))) := by
  refine gives_frz rfl rfl (by simp only [refsL, refs, Ino.row, h, List.append_nil]) (body_h b152 (by show 1 ≤ 6; decide) ?_)
  simp -dsimp only [↓R0, RA, simprocAttr, Ino.row]
  rfl
theorem kd_refs {d : D} (h : KdOk d) : refs d = [] := by
  unfold KdOk at h
  have key : ∀ l : List Ent, refsL (rowsE l) = [] := by
    intro l
    induction l with
    | nil => rfl
    | cons e l ih => rw [rowsE_cons]; simp only [refsL, refs, ih, List.append_nil]
  rcases h with ⟨h, _⟩ | ⟨h, _⟩ | h
  · rw [h]; simp only [refs]
  · rw [h]; simp only [refs]
  · rw [h]; simp only [refs, key]
theorem refsL_app : ∀ (a b : List D), refsL (a ++ b) = refsL a ++ refsL b
  | [], b => rfl
  | d :: a, b => by simp only [List.cons_append, refsL, refsL_app a b, List.append_assoc]
theorem rowsE_refs {l : List Ent} : refsL (rowsE l) = [] := by
  induction l with
  | nil => rfl
  | cons e l ih => rw [rowsE_cons]; simp only [refsL, refs, ih, List.append_nil]
theorem d151 {t : Tr} (hT : T t) {st : Store} : ∃ i : Int, (0 ≤ i → t.has i ∧ (t.at i).kind = 0) ∧ Does1 C TP 151 [t.nd, .fn 152 []] st (.int .i64 i) st := by
  have main : CallW C TP 151 [t.nd, .fn 152 []] st fun d st' => ∃ i : Int, (0 ≤ i → t.has i ∧ (t.at i).kind = 0) ∧ d = .int .i64 i ∧ st' = st := by
    refine call_th rfl rfl (body_h b151 (by show 2 ≤ 19; decide) ?_)
    have hlen := hT.n
    simp -dsimp only [↓R0, RA, simprocAttr, RQ, hT.ok.nd.lnV]
    refine hLoop_i (fun i : Nat => t.nodes.length - i) (fun i fr' st' => fr' 0 = t.nd ∧ fr' 1 = .fn 152 [] ∧ fr' 7 = .int .i64 t.nodes.length ∧ fr' 8 = .int .i64 i ∧ i ≤ t.nodes.length ∧ st' = st) 0 ⟨rfl, rfl, rfl, rfl, by omega, rfl⟩ ?_
    rintro i fr st1 ⟨h0, h1, h7, h8, hi, rfl⟩
    simp -dsimp only [↓R0, RA, simprocAttr, h7, h8]
    apply hIf_d <;> intro hc
    · have hil : i < t.nodes.length := by omega
      have hk := has_nat hil
      simp -dsimp only [↓R0, RA, simprocAttr, hc, h0, h1, h8, Tr.ixh hT.ok hk, Tr.crow hk, Tr.cle hk, hC_g (s152 (kd_refs (hT.ok.kdk hk)))]
      apply hIf_d <;> intro h2
      · simp -dsimp only [↓R0, RA, simprocAttr, h8, h2]
        exact ⟨(i : Int), fun _ => ⟨hk, h2⟩, rfl, by first | trivial | rfl⟩
      · simp -dsimp (disch := ((try simp only [sz_sl, ByteArray.size_append]); omega)) only [↓R0, RA, simprocAttr, h2, h8, w64]
        exact ⟨i + 1, by omega, (by first | trivial | (simp -dsimp only [R1, simprocAttr, h0]; done) | rfl), (by first | trivial | (simp -dsimp only [R1, simprocAttr, h1]; done) | rfl), (by first | trivial | (simp -dsimp only [R1, simprocAttr, h7]; done) | rfl), (by first | trivial | (simp -dsimp only [R1, simprocAttr]; done) | rfl), by omega, by first | trivial | rfl⟩
    · simp -dsimp only [↓R0, RA, simprocAttr, hc]
      exact ⟨-1, fun h => by omega, rfl, by first | trivial | rfl⟩
  obtain ⟨d, st', hd, i, hi, rfl, rfl⟩ := main.does
  exact ⟨i, hi, hd⟩
theorem T.nd {t : Tr} (h : T t) : t.nd = .fsl t.nodes.length (rowsI t.nodes) := by
  have h1 := h.fit.n1
  rcases h.ok.nd with ⟨_, h2, _⟩ | ⟨_, h2, _⟩ | h2
  · omega
  · omega
  · exact h2
theorem d125 {t : Tr} (hT : T t) {st : Store} : Does1 C TP 125 [t.nd] st (.osl st.length 1 6 0 t.nodes.length) (st ++ [.cells 1 true 38 (rowsI t.nodes)]) := by
  refine does_of (call_th rfl rfl (body_h b125 (by show 1 ≤ 8; decide) ?_))
  have hlen := hT.n
  have h1 := hT.fit.n1
  have e1 : eqlM 3 t.nd .nils = some false := by rw [hT.nd]; rfl
  have e2 : binM 3 .eql t.nd .nils = some (.bool false) := by
    rw [hT.nd]; rfl
  simp -dsimp only [↓R0, RA, simprocAttr, RQ, e2]
  have e3 : appendM (st ++ [.cells 0 true 38 []]) 38 6 72 (.osl st.length 0 6 0 0) t.nd = some (.osl st.length 1 6 0 t.nodes.length, st ++ [.cells 1 true 38 (rowsI t.nodes)]) := by
    have hs : srcCells (st ++ [.cells 0 true 38 []]) 6 t.nd = some (rowsI t.nodes) := by
      rw [hT.nd]
      simp only [srcCells, cellsOf, rowsI_length, if_true]
    have hl : lenOf t.nd = some t.nodes.length := by rw [hT.nd]; rfl
    have h72 : t.nodes.length * 72 ≤ 70368744177664 ∧ t.nodes.length ≤ 70368744177664 := ⟨by omega, by omega⟩
    have hn0 : ¬ (t.nodes.length = 0) := by omega
    simp [appendM, hs, hl, hn0, app_get0, app_set0, h72]
  simp -dsimp only [↓R0, RA, simprocAttr, RQ, e3]
structure Own (st : Store) (id ver : Nat) (t : Tr) : Prop where
  blk : st[id]? = some (.cells ver true 38 (rowsI t.nodes))
def Tr.od (t : Tr) (id ver : Nat) : List D := [.osl id ver 6 0 t.nodes.length, .int .i64 t.mx, .int .i64 t.mb]
theorem d114 {t : Tr} (hT : T t) {st : Store} : ∃ g, g.length = 2 ∧ Does1 C TP 114 [t.d] st (.agg (t.od (st.length + 2) 1)) (st ++ g ++ [.cells 1 true 38 (rowsI t.nodes)]) := by
  have main : CallW C TP 114 [t.d] st fun d st' => ∃ g : Store, g.length = 2 ∧ d = .agg (t.od (st.length + 2) 1) ∧ st' = st ++ g ++ [.cells 1 true 38 (rowsI t.nodes)] := by
    refine call_th rfl rfl (body_h b114 (by show 1 ≤ 8; decide) ?_)
    simp -dsimp only [↓R0, RA, simprocAttr, RQ, hCall_d (d125 hT), ld24]
    exact ⟨[_, _], rfl, rfl, rfl⟩
  obtain ⟨d, st', hd, g, hg, rfl, rfl⟩ := main.does
  exact ⟨g, hg, hd⟩
theorem app_ent {st st0 : Store} {d : D} {l : List Ent} (h : EntS st0 d l) (hl : l.length ≤ 1000000) (hs : st = st0 ++ [.cells 0 true 71 []]) (hn : d ≠ .nils) :
    ∃ ver, appendM st 71 2 24 (.osl st0.length 0 2 0 0) d = some (.osl st0.length ver 2 0 l.length, st0 ++ [.cells ver true 71 (rowsE l)]) := by
  have hsrc : srcCells st 2 d = some (rowsE l) ∧ lenOf d = some l.length := by
    rcases h with (⟨h, _⟩ | ⟨h, h1, h2⟩ | h) | ⟨id, ver, rw, tl, h, hb, _⟩
    · exact absurd h hn
    · rw [h, h1, h2]; exact ⟨rfl, rfl⟩
    · rw [h]; exact ⟨by simp only [srcCells, cellsOf, rowsE_length, if_true], rfl⟩
    · rw [h]
      refine ⟨?_, rfl⟩
      have : st[id]? = some (.cells ver rw 71 (rowsE l ++ tl)) := by rw [hs]; exact get_app hb
      simp only [srcCells, cellsOf, this]
      rw [if_pos ⟨trivial, trivial, by simp [rowsE_length]⟩, List.drop_zero, ← rowsE_length, List.take_left' rfl]
  subst hs
  by_cases h0 : l.length = 0
  · have : l = [] := List.eq_nil_of_length_eq_zero h0
    subst this
    exact ⟨0, by simp [appendM, hsrc.1, hsrc.2, slNil]; rfl⟩
  · have h24 : l.length * 24 ≤ 70368744177664 ∧ l.length ≤ 70368744177664 := ⟨by omega, by omega⟩
    exact ⟨1, by simp [appendM, hsrc.1, hsrc.2, h0, app_get0, app_set0, h24]⟩
theorem finish_osl1 {st st1 : Store} {id ver n v v0 : Nat} {rw0 : Bool} {ty0 ty : TypeId} {cs0 cs : List D} (h1 : st1 = [.cells v0 rw0 ty0 cs0, .cells v true ty cs]) (hc0 : refsL cs0 = []) (hc : refsL cs = []) :
    finish true st [id] (.osl 1 ver 2 0 n) st1 = some (.osl st.length ver 2 0 n, st ++ [.cells v true ty cs]) := by
  subst h1
  unfold finish
  have hk0 : kids [Blk.cells v0 rw0 ty0 cs0, .cells v true ty cs] 0 = [] := hc0
  have hk1 : kids [Blk.cells v0 rw0 ty0 cs0, .cells v true ty cs] 1 = [] := hc
  have hr : ∀ k, reach [Blk.cells v0 rw0 ty0 cs0, .cells v true ty cs] k [0, 1] = [0, 1] := by
    intro k
    induction k with
    | zero => rfl
    | succ k ih =>
      unfold reach
      have : ([0, 1] : List Nat).flatMap (kids [Blk.cells v0 rw0 ty0 cs0, .cells v true ty cs]) = [] := by simp [hk0, hk1]
      rw [this]
      exact ih
  have e1 : (reach [Blk.cells v0 rw0 ty0 cs0, .cells v true ty cs] 6 (addNew (List.range ([id] : List Nat).length) (refs (.osl 1 ver 2 0 n)))).drop ([id] : List Nat).length = [1] := by
    have : addNew (List.range ([id] : List Nat).length) (refs (.osl 1 ver 2 0 n)) = [0, 1] := by simp [refs, addNew, List.range_succ]
    rw [this, hr]; rfl
  simp only [e1]
  generalize hb : (fun i => if i < ([id] : List Nat).length then ([id] : List Nat)[i]? else (idxOf [1] i).map (st.length + ·)) = back
  have hb1 : back 1 = some st.length := by rw [← hb]; simp [idxOf]
  have h01 : ∀ ds, refsL ds = [] → renL back ds = some ds := fun ds h => renL_any back ds h
  simp [ren, hb1, take, renB, h01 _ hc0, h01 _ hc, List.range_succ, alive]
theorem d106 {st : Store} {d : D} {l : List Ent} (h : EntS st d l) (hl : l.length ≤ 1000000) :
    CallW C TP 106 [d] st fun r st' => (l = [] ∧ r = .nils ∧ st' = st) ∨ ∃ ver, r = .osl st.length ver 2 0 l.length ∧ st' = st ++ [.cells ver true 71 (rowsE l)] := by
  have ebin : ∀ (c : Nat), c = 3 → d ≠ .nils → binM c .eql d .nils = some (.bool false) := by
    rintro c rfl hn
    rcases h with (⟨h, _⟩ | ⟨h, h1, h2⟩ | h) | ⟨id, ver, rw, tl, h, hb, _⟩
    · exact absurd h hn
    · rw [h]; rfl
    · rw [h]; rfl
    · rw [h]; rfl
  have frozen : Sl l.length (rowsE l) d → refsL [d] = [] → CallW C TP 106 [d] st fun r st' => (l = [] ∧ r = .nils ∧ st' = st) ∨ ∃ ver, r = .osl st.length ver 2 0 l.length ∧ st' = st ++ [.cells ver true 71 (rowsE l)] := by
    intro hs hr
    refine call_kp rfl rfl hr (body_h b106 (by show 1 ≤ 8; decide) ?_)
    by_cases hn : d = .nils
    · have hl0 : l = [] := by
        rcases hs with ⟨_, h, _⟩ | ⟨h, _⟩ | h
        · exact List.eq_nil_of_length_eq_zero h
        · rw [h] at hn; cases hn
        · rw [h] at hn; cases hn
      have e0 : binM 3 .eql .nils .nils = some (.bool true) := rfl
      rw [hn]
      simp -dsimp only [↓R0, RA, simprocAttr, RQ, e0]
      rw [finish_pl (d := .nils) (by simp only [refs])]
      exact .inl ⟨hl0, rfl, rfl⟩
    · obtain ⟨ver, ha⟩ := app_ent (st0 := []) (st := [.cells 0 true 71 []]) (.inl hs : EntS [] d l) hl rfl hn
      have ha' : appendM [Blk.cells 0 true 71 []] 71 2 24 (.osl 0 0 2 0 0) d = some (.osl 0 ver 2 0 l.length, [.cells ver true 71 (rowsE l)]) := ha
      simp -dsimp only [↓R0, RA, simprocAttr, RQ, ebin 3 rfl hn, ha']
      rw [finish_osl (st1 := [.cells ver true 71 (rowsE l)]) rfl rowsE_refs]
      exact .inr ⟨ver, rfl, rfl⟩
  rcases h with h | ⟨id, ver, rw, tl, hd, hb, htl⟩
  · refine frozen h ?_
    rcases h with ⟨h, _⟩ | ⟨h, h1, h2⟩ | h <;> rw [h] <;> simp only [refsL, refs, List.append_nil, rowsE_refs]
  · have hc0 : refsL (rowsE l ++ tl) = [] := by rw [refsL_app, rowsE_refs, htl]; rfl
    have hk : kids st id = [] := by unfold kids; rw [hb]; exact hc0
    have hreach : reach st 6 (addNew [] (refsL [d])) = [id] := by
      have e1 : addNew [] (refsL [d]) = [id] := by rw [hd]; simp [refsL, refs, addNew]
      have hr : ∀ k, reach st k [id] = [id] := by
        intro k
        induction k with
        | zero => rfl
        | succ k ih =>
          unfold reach
          have : ([id] : List Nat).flatMap (kids st) = [] := by simp [hk]
          rw [this]
          exact ih
      rw [e1, hr]
    have hix : idxOf [id] id = some 0 := by simp [idxOf]
    have hren : renL (idxOf [id]) [d] = some [.osl 0 ver 2 0 l.length] := by
      rw [hd]; simp only [renL, ren, hix]
    have htake : take (C.ro 106) st (idxOf [id]) [id] = some [.cells ver false 71 (rowsE l ++ tl)] := by
      have hro : C.ro 106 = true := rfl
      rw [hro]
      simp only [take, hb, renB, renL_any _ _ hc0, Bool.not_true, Bool.and_false]
    refine call_keep rfl rfl hreach hren htake (body_h b106 (by show 1 ≤ 8; decide) ?_)
    have hE0 : EntS [.cells ver false 71 (rowsE l ++ tl)] (.osl 0 ver 2 0 l.length) l := .inr ⟨0, ver, false, tl, rfl, rfl, htl⟩
    obtain ⟨ver2, ha⟩ := app_ent (st := [.cells ver false 71 (rowsE l ++ tl), .cells 0 true 71 []]) hE0 hl rfl (by intro e; cases e)
    have ha' : appendM [.cells ver false 71 (rowsE l ++ tl), Blk.cells 0 true 71 []] 71 2 24 (.osl 1 0 2 0 0) (.osl 0 ver 2 0 l.length) = some (.osl 1 ver2 2 0 l.length, [.cells ver false 71 (rowsE l ++ tl), .cells ver2 true 71 (rowsE l)]) := ha
    have e0 : binM 3 .eql (.osl 0 ver 2 0 l.length) .nils = some (.bool false) := rfl
    simp -dsimp only [↓R0, RA, simprocAttr, RQ, e0, ha']
    have hro : C.ro 106 = true := rfl
    rw [hro, finish_osl1 rfl hc0 rowsE_refs]
    exact .inr ⟨ver2, rfl, rfl⟩
end
end Go.Mm
end
section
namespace Go.Mm
variable [Globs]
section
section
variable {P : Program} {C : Cfg}
theorem wpLT_c {d : Option Tmp} {x : MX} {b : Bool} {l : List (MOp × Bool)} {fr : Fr} {st : Store} {tr : List Fp} {K : Fr → Store → List Fp → Prop} : wpLT C P ((⟨d, x, none⟩, b) :: l) fr st tr K =
    wpX C P x fr st fun v st' => wpLT C P l (put fr d v) st' (tr ++ [if b then fpX C fr st x else .top]) K := rfl
theorem wpLT_g {d : Option Tmp} {x : MX} {b : Bool} {g : Tmp × Bool} {l : List (MOp × Bool)} {fr : Fr} {st : Store} {tr : List Fp} {K : Fr → Store → List Fp → Prop} : wpLT C P ((⟨d, x, some g⟩, b) :: l) fr st tr K =
    hIf (wantG fr (some g)) (wpX C P x fr st fun v st' => wpLT C P l (put fr d v) st' (tr ++ [if b then fpX C fr st x else .top]) K) (wpLT C P l (put fr d .undef) st (tr ++ [.non]) K) ⟨⟩ ⟨⟩ := rfl
theorem fx_ldo {fr : Fr} {st : Store} {x : Operand} : fpX C fr st (.i (.ldo x)) = fpL (rd fr x) := rfl
theorem fx_lda {fr : Fr} {st : Store} {n : Nat} {x : Operand} : fpX C fr st (.i (.lda n x)) = fpL (rd fr x) := rfl
theorem fx_sto {fr : Fr} {st : Store} {n : Nat} {x y : Operand} : fpX C fr st (.i (.sto n x y)) = fpS (rd fr x) st.length := rfl
theorem fx_alc {fr : Fr} {st : Store} {t : TypeId} {z : List D} : fpX C fr st (.i (.alc t z)) = .touch [] st.length := rfl
theorem fx_box {fr : Fr} {st : Store} {t : TypeId} {x : Operand} : fpX C fr st (.i (.box t x)) = .touch [] st.length := rfl
theorem fx_bsl {fr : Fr} {st : Store} {e : TypeId} {sz n : Nat} {z : List D} {ps : List (Nat × Operand)} : fpX C fr st (.i (.bsl e sz z n ps)) = .touch [] st.length := rfl
theorem fx_call {fr : Fr} {st : Store} {f : Operand} {args : List Operand} : fpX C fr st (.call f args) = fpC C st (rd fr f) (rds fr args) := rfl
theorem fl_p {i v o : Nat} : fpL (some (.ptr i v o)) = .read (some i) := rfl
theorem fl_f {cs : List D} {o : Nat} : fpL (some (.fptr cs o)) = .read none := rfl
theorem fs_p {i v o n : Nat} : fpS (some (.ptr i v o)) n = .touch [i] n := rfl
end
def R5 := And.intro (@wpLT_nil) <| And.intro (@wpLT_c) (@wpLT_g)
def R6 := And.intro (@fx_ldo) <| And.intro (@fx_lda) <| And.intro (@fx_sto) <| And.intro (@fx_alc) <| And.intro (@fx_box) <| And.intro (@fx_bsl) <| And.intro (@fx_call) <| And.intro (@fl_p) <| And.intro (@fl_f) (@fs_p)
theorem fp110 {st : Store} {id v e o n : Nat} {r : List D} : fpC C st (some (.fn 110 [])) (some (.osl id v e o n :: r)) = .touch [id] st.length := rfl
theorem fp110n {st : Store} {r : List D} : fpC C st (some (.fn 110 [])) (some (.nils :: r)) = .touch [] st.length := rfl
theorem fp145 {st : Store} {id v e o n : Nat} {r : List D} : fpC C st (some (.fn 145 [])) (some (.osl id v e o n :: r)) = .touch [id] st.length := rfl
theorem fp145n {st : Store} {r : List D} : fpC C st (some (.fn 145 [])) (some (.nils :: r)) = .touch [] st.length := rfl
theorem fp106 {st : Store} {ds : List D} : fpC C st (some (.fn 106 [])) (some ds) = .touch [] st.length := rfl
theorem fp22 {st : Store} {ds : List D} : fpC C st (some (.fn 22 [])) (some ds) = .touch (f22 (ds ++ []) st) st.length := rfl
theorem fp71 {st : Store} {ds : List D} (h : refsL ds = []) : fpC C st (some (.fn 71 [])) (some ds) = .touch [] st.length := by
  have : fpC C st (some (.fn 71 [])) (some ds) = .touch (reach st 6 (addNew [] (refsL (ds ++ [])))) st.length := rfl
  rw [this, List.append_nil, h]; rfl
theorem fpfrz {st : Store} {ds : List D} {g : FuncId} (h : C.ext g = none ∧ C.mode g = .frz) : fpC C st (some (.fn g [])) (some ds) = .free := by
  unfold fpC
  simp only [h.1, h.2]
end
end Go.Mm
end
section
namespace Go.Mm
open Go.Proofs
variable [Globs]
set_option maxRecDepth 8000
open Go.Proofs.Tryz renaming prog → TP
section
theorem rowsE_takeN : ∀ (l : List Ent) (i : Nat), (rowsE l).take (i * 2) = rowsE (l.take i)
  | [], i => by simp [rowsE]
  | e :: l, 0 => by simp [rowsE]
  | e :: l, i + 1 => by
    rw [show (i + 1) * 2 = i * 2 + 2 by omega, rowsE_cons, List.take_succ_cons, List.take_succ_cons, rowsE_takeN l i, List.take_succ_cons, rowsE_cons]
theorem rowsE_dropN : ∀ (l : List Ent) (i : Nat), (rowsE l).drop (i * 2) = rowsE (l.drop i)
  | [], i => by simp [rowsE]
  | e :: l, 0 => by simp
  | e :: l, i + 1 => by
    rw [show (i + 1) * 2 = i * 2 + 2 by omega, rowsE_cons, List.drop_succ_cons, List.drop_succ_cons, rowsE_dropN l i, List.drop_succ_cons]
def insE (l : List Ent) (i : Nat) (e : Ent) : List Ent := l.take i ++ e :: l.drop i
theorem d110n {st : Store} {vid vv : Nat} {e : Ent} (h : st[vid]? = some (.cells vv true 71 e.row)) :
    Does1 C TP 110 [.nils, .int .i64 0, .osl vid vv 2 0 1] st (.osl st.length 0 2 0 1) (st ++ [.cells 0 true 71 (rowsE [e])]) := by
  refine call_ex (g := x110) rfl ?_
  have h' : st[vid]? = some (.cells vv true 71 [.str e.name, .int .i64 e.ino]) := h
  simp only [x110, h', if_true]
  rfl
theorem d110 {st : Store} {id ver vid vv i : Nat} {e : Ent} {l : List Ent} (h : st[vid]? = some (.cells vv true 71 e.row)) (hb : st[id]? = some (.cells ver true 71 (rowsE l))) (hn : id ≠ vid) (hi : i ≤ l.length) (hl : l.length < 4096) :
    Does1 C TP 110 [.osl id ver 2 0 l.length, .int .i64 i, .osl vid vv 2 0 1] st (.osl id (ver + 1) 2 0 (l.length + 1)) (st.set id (.cells (ver + 1) true 71 (rowsE (insE l i e)))) := by
  refine call_ex (g := x110) rfl ?_
  have h' : st[vid]? = some (.cells vv true 71 [.str e.name, .int .i64 e.ino]) := h
  have a1 : (0 : Int) ≤ i := by omega
  have a2 : (i : Int) ≤ (l.length : Nat) := by omega
  have a3 : l.length * 2 ≤ (rowsE l).length := by rw [rowsE_length]; exact Nat.le_refl _
  have e1 : (rowsE l).take (i * 2) ++ [.str e.name, .int .i64 e.ino] ++ ((rowsE l).take (l.length * 2)).drop (i * 2) = rowsE (insE l i e) := by
    rw [rowsE_takeN, rowsE_takeN, rowsE_dropN, List.take_length, insE, rowsE_append, rowsE_cons]
    simp
  simp only [x110, h', if_true, hn, if_false, hb, a1, a2, a3, hl, and_self, Int.toNat_natCast, e1]
def Ino.wkd (x : Ino) (v : D) : Ino := { x with kd := v }
def Ino.wln (x : Ino) (w : Int) : Ino := { x with links := w }
def setK (ns : List Ino) (d : Nat) (v : D) : List Ino := ns.set d ((ns.getD d .free).wkd v)
def setL (ns : List Ino) (k : Nat) (w : Int) : List Ino := ns.set k ((ns.getD k .free).wln w)
def lnk (ns : List Ino) (k : Nat) : Int := (ns.getD k .free).links
theorem setK_len {ns : List Ino} {d : Nat} {v : D} : (setK ns d v).length = ns.length := by simp [setK]
theorem setL_len {ns : List Ino} {d : Nat} {v : Int} : (setL ns d v).length = ns.length := by simp [setL]
theorem getD_at {ns : List Ino} {d : Nat} (h : d < ns.length) : ns.getD d .free = ns[d] := by rw [List.getD_eq_getElem?_getD, List.getElem?_eq_getElem h]; rfl
theorem lnk_setK {ns : List Ino} {d k : Nat} {v : D} : lnk (setK ns d v) k = lnk ns k := by
  unfold lnk setK
  simp only [List.getD_eq_getElem?_getD, List.getElem?_set]
  by_cases e : d = k
  · subst e
    rw [if_pos rfl]
    by_cases hd : d < ns.length
    · rw [if_pos hd, List.getElem?_eq_getElem hd]; rfl
    · rw [if_neg hd, List.getElem?_eq_none (by omega)]
  · rw [if_neg e]
def enterN (ns : List Ino) (d : Nat) (kd : D) (k : Nat) : List Ino := setL (setK ns d kd) k (lnk ns k + 1)
theorem rowsI_set : ∀ (ns : List Ino) (d g : Nat) (v : D) (x : Ino), d < ns.length → g < 6 → x.row = (ns.getD d .free).row.set g v → (rowsI ns).set (d * 6 + g) v = rowsI (ns.set d x)
  | [], d, g, v, x, h, _, _ => by simp at h
  | y :: ns, 0, g, v, x, h, hg, hx => by
    simp only [List.getD_cons_zero, Ino.row] at hx
    rw [rowsI_cons, List.set_cons_zero, rowsI_cons, Nat.zero_mul, Nat.zero_add]
    rcases g with _ | _ | _ | _ | _ | _ | g
    · simp only [List.set_cons_zero, List.cons.injEq] at hx ⊢; simp [hx]
    · simp only [List.set_cons_zero, List.set_cons_succ, List.cons.injEq] at hx ⊢; simp [hx]
    · simp only [List.set_cons_zero, List.set_cons_succ, List.cons.injEq] at hx ⊢; simp [hx]
    · simp only [List.set_cons_zero, List.set_cons_succ, List.cons.injEq] at hx ⊢; simp [hx]
    · simp only [List.set_cons_zero, List.set_cons_succ, List.cons.injEq] at hx ⊢; simp [hx]
    · simp only [List.set_cons_zero, List.set_cons_succ, List.cons.injEq] at hx ⊢; simp [hx]
    · omega
  | y :: ns, d + 1, g, v, x, h, hg, hx => by
    simp only [List.getD_cons_succ] at hx
    rw [rowsI_cons, List.set_cons_succ, rowsI_cons, show (d + 1) * 6 + g = (d * 6 + g) + 6 by omega]
    simp only [List.set_cons_succ]
    rw [rowsI_set ns d g v x (by simpa using h) hg hx]
theorem EntS.mono {st st' : Store} {d : D} {l : List Ent} (h : EntS st d l) (hk : ∀ i, idD d = some i → st'[i]? = st[i]?) : EntS st' d l := by
  rcases h with h | ⟨id, ver, rw', tl, rfl, hb, ht⟩
  · exact .inl h
  · exact .inr ⟨id, ver, rw', tl, rfl, by rw [hk id rfl]; exact hb, ht⟩
theorem EntS.grow {st g : Store} {d : D} {l : List Ent} (h : EntS st d l) : EntS (st ++ g) d l := by
  rcases h with h | ⟨id, ver, rw', tl, rfl, hb, ht⟩
  · exact .inl h
  · exact .inr ⟨id, ver, rw', tl, rfl, get_app hb, ht⟩
theorem d115 {st : Store} {id ver dd k : Nat} {ns : List Ino} {mx mb : Int} {nm : ByteArray} {l : List Ent} (hb : st[id]? = some (.cells ver true 38 (rowsI ns))) (hd : dd < ns.length) (hk : k < ns.length) (hn : ns.length ≤ 256)
    (hE : EntS st ns[dd].kd l) (hs : Sorted l) (hl : l.length < 1025) (hlk : 0 ≤ ns[k].links ∧ ns[k].links ≤ 1000000) :
    CallW C TP 115 [.agg [.osl id ver 6 0 ns.length, .int .i64 mx, .int .i64 mb], .int .i64 dd, .str nm, .int .i64 k] st fun _ st' => ∃ kd i, st'[id]? = some (.cells ver true 38 (rowsI (enterN ns dd kd k))) ∧
      i ≤ l.length ∧ (∀ j (h : j < l.length), j < i → sLt l[j].name nm = true) ∧ (∀ j (h : j < l.length), i ≤ j → sLt l[j].name nm = false) ∧
      EntS st' kd (insE l i ⟨nm, k⟩) ∧ (∀ j, idD kd = some j → st.length ≤ j) ∧ (∀ j, j < st.length → j ≠ id → st'[j]? = st[j]?) ∧ st.length ≤ st'.length := by
  refine call_th rfl rfl (body_h b115 (by show 4 ≤ 45; decide) ?_)
  have r4 : (rowsI ns)[dd * 6 + 4]? = some ns[dd].kd := rowsI_get (List.getElem?_eq_getElem hd) 4 (by omega)
  have hid := get_lt hb
  have a1 : (0 : Int) ≤ dd := by omega
  have a2 : (dd : Int) < (ns.length : Nat) := by omega
  have b1 : (0 : Int) ≤ k := by omega
  have b2 : (k : Int) < (ns.length : Nat) := by omega
  have hsid : ∀ (l : Store) (b : Blk), ((st ++ l).set id b)[id]? = some b := fun l b => get_set_eq (get_app hb)
  have hsbox : ∀ (l : Store) (b : Blk), ((st ++ l).set id b)[st.length]? = l[0]? := fun l b => by rw [get_set_ne (by omega), app_get0]
  have s4 : ∀ v, (rowsI ns).set (dd * 6 + 4) v = rowsI (setK ns dd v) := fun v => rowsI_set ns dd 4 v _ hd (by omega) rfl
  have s2 : ∀ v w, (rowsI (setK ns dd v)).set (k * 6 + 2) (.int .i64 w) = rowsI (setL (setK ns dd v) k w) := fun v w => rowsI_set _ k 2 _ _ (by rw [setK_len]; exact hk) (by omega) rfl
  have l4 : (dd * 6 + 4 + 1 ≤ (rowsI ns).length) = True := by rw [rowsI_length]; simp; omega
  have l2 : ∀ v, (k * 6 + 2 + 1 ≤ (rowsI (setK ns dd v)).length) = True := fun v => by rw [rowsI_length, setK_len]; simp; omega
  have hlk' : lnk ns k = ns[k].links := by unfold lnk; rw [getD_at hk]
  have r2 : ∀ v, (rowsI (setK ns dd v))[k * 6 + 2]? = some (.int .i64 (lnk ns k)) := fun v => by
    have hk' : k < (setK ns dd v).length := by rw [setK_len]; exact hk
    rw [rowsI_get (List.getElem?_eq_getElem hk') 2 (by omega), ← lnk_setK (d := dd) (v := v)]
    unfold lnk
    rw [getD_at hk']; rfl
  have w2 : IntKind.i64.wrap (lnk ns k + 1) = lnk ns k + 1 := by rw [w64] <;> omega
  simp -dsimp (disch := ((try simp only [sz_sl, ByteArray.size_append]); omega)) only [↓R0, RA, simprocAttr, RQ, osl_ix, Int.toNat_natCast, get_app hb, r4]
  refine hCall_c (d106 hE.grow (by omega)) ?_
  rintro r st2 (⟨rfl, rfl, rfl⟩ | ⟨ver2, rfl, rfl⟩)
  · obtain ⟨i, g1, g2, g3, g4⟩ := s107 (st := st ++ [.cells 0 true 24 [.osl id ver 6 0 ns.length, .int .i64 mx, .int .i64 mb]]) (nm := nm) s153 hs (.inl (.inl ⟨rfl, rfl, rfl⟩)) (by omega)
    simp -dsimp only [↓R0, RA, simprocAttr, RQ, hCall_d g4]
    have hi0 : i = 0 := by simpa using g1
    subst hi0
    have hv : (st ++ [Blk.cells 0 true 24 [.osl id ver 6 0 ns.length, .int .i64 mx, .int .i64 mb], .cells 0 true 71 [.str nm, .int .i64 k]])[st.length + 1]? = some (.cells 0 true 71 (Ent.row ⟨nm, k⟩)) := by rw [app_get]; rfl
    have e0 : ((0 : Nat) : Int) = 0 := rfl
    refine regX_h x115_3 c115_3 ?_
    simp -dsimp only [↓R0, RA, simprocAttr, RQ, ↓R5, R6, e0, hCall_d (d110n hv), fp110n]
    simp -dsimp only [↓R0, RA, simprocAttr, RQ, ↓R5, R6, osl_ix a1 a2, osl_ix b1 b2, Int.toNat_natCast, get_app hb, hsid, hsbox, List.set_set, s4, s2, l4, l2, r2, w2]
    refine ⟨?_, .osl (st.length + 2) 0 2 0 1, 0, ?_, Nat.le_refl _, (by intro j h; simp at h), (by intro j h; simp at h), ?_, ?_, ?_, ?_⟩
    · simp only [fp110n, fp110]
      try simp [fpOk]
      try omega
    · rfl
    · refine .inr ⟨st.length + 2, 0, true, [], rfl, ?_, rfl⟩
      rw [get_set_ne (by omega), app_get, List.append_nil]; rfl
    · intro j hj
      simp [idD] at hj
      omega
    · intro j hj hji
      rw [get_set_ne hji, List.getElem?_append_left hj]
    · (simp; try omega)
  · have hE1 : EntS (st ++ [Blk.cells 0 true 24 [.osl id ver 6 0 ns.length, .int .i64 mx, .int .i64 mb], .cells ver2 true 71 (rowsE l)]) (.osl (st.length + 1) ver2 2 0 l.length) l :=
      .inr ⟨st.length + 1, ver2, true, [], rfl, by rw [app_get, List.append_nil]; rfl, rfl⟩
    obtain ⟨i, g1, g2, g3, g4⟩ := s107 (nm := nm) s153 hs hE1 (by omega)
    simp -dsimp only [↓R0, RA, simprocAttr, RQ, hCall_d g4]
    have hv : (st ++ [Blk.cells 0 true 24 [.osl id ver 6 0 ns.length, .int .i64 mx, .int .i64 mb], .cells ver2 true 71 (rowsE l), .cells 0 true 71 [.str nm, .int .i64 k]])[st.length + 2]? = some (.cells 0 true 71 (Ent.row ⟨nm, k⟩)) := by rw [app_get]; rfl
    have hv1 : (st ++ [Blk.cells 0 true 24 [.osl id ver 6 0 ns.length, .int .i64 mx, .int .i64 mb], .cells ver2 true 71 (rowsE l), .cells 0 true 71 [.str nm, .int .i64 k]])[st.length + 1]? = some (.cells ver2 true 71 (rowsE l)) := by rw [app_get]; rfl
    refine regX_h x115_3 c115_3 ?_
    simp -dsimp only [↓R0, RA, simprocAttr, RQ, ↓R5, R6, hCall_d (d110 hv hv1 (by omega) g1 (by omega)), fp110]
    simp -dsimp only [↓R0, RA, simprocAttr, RQ, ↓R5, R6, osl_ix a1 a2, osl_ix b1 b2, Int.toNat_natCast, get_app hb, hsid, hsbox, List.set_set, s4, s2, l4, l2, r2, w2]
    refine ⟨?_, .osl (st.length + 1) (ver2 + 1) 2 0 (l.length + 1), i, ?_, g1, g2, g3, ?_, ?_, ?_, ?_⟩
    · simp only [fp110n, fp110]
      try simp [fpOk]
      try omega
    · rfl
    · refine .inr ⟨st.length + 1, ver2 + 1, true, [], ?_, ?_, rfl⟩
      · rw [insE, List.length_append, List.length_cons, List.length_take, List.length_drop]
        congr 1; omega
      · rw [get_set_ne (by omega), app_get, List.append_nil]; rfl
    · intro j hj
      simp [idD] at hj
      omega
    · intro j hj hji
      rw [get_set_ne hji, List.getElem?_append_left hj]
    · (simp; try omega)
end
section
theorem mapO_id {st : Store} {k : Nat} : ∀ {l : List D}, refsL l = [] → mapO (fz st (k + 1)) l = some l
  | [], _ => rfl
  | d :: l, h => by
    simp only [refsL, List.append_eq_nil_iff] at h
    simp only [mapO, fz_0 h.1, mapO_id h.2]
theorem fz_ent {st : Store} {k : Nat} {d : D} {l : List Ent} (h : EntS st d l) : ∃ d', fz st (k + 2) d = some d' ∧ KdOk d' ∧ ents d' = l := by
  rcases h with (⟨rfl, h1, h2⟩ | ⟨rfl, h1, h2⟩ | rfl) | ⟨id, ver, rw, tl, rfl, hb, ht⟩
  · have : l = [] := List.eq_nil_of_length_eq_zero h1
    exact ⟨.nils, fz_0 (by simp only [refs]), kd_nils, by rw [this]; rfl⟩
  · have : l = [] := List.eq_nil_of_length_eq_zero h1
    exact ⟨.zsl, fz_0 (by simp only [refs]), .inr (.inl ⟨rfl, rfl, rfl⟩), by rw [this]; rfl⟩
  · exact ⟨_, fz_0 (by simp only [refs, rowsE_refs]), kd_fsl, ents_fsl⟩
  · refine ⟨.fsl l.length (rowsE l), ?_, kd_fsl, ents_fsl⟩
    unfold fz
    have h0 : ((rowsE l ++ tl).drop 0).take (l.length * 2) = rowsE l := by rw [List.drop_zero, ← rowsE_length, List.take_left' rfl]
    have hle : 0 + l.length * 2 ≤ (rowsE l ++ tl).length := by simp [rowsE_length]
    simp only [refs, List.isEmpty_cons, Bool.false_eq_true, if_false, hb]
    rw [if_neg (by simp), if_pos ⟨trivial, hle⟩, h0, mapO_id rowsE_refs]
structure Frz (st : Store) (x y : Ino) : Prop where
  kind : y.kind = x.kind
  mode : y.mode = x.mode
  links : y.links = x.links
  data : y.data = x.data
  up : y.up = x.up
  kids : ∀ l, EntS st x.kd l → y.kids = l
  ok : KdOk y.kd
theorem EntS.uniq {st : Store} {d : D} {l l' : List Ent} (h : EntS st d l) (h' : EntS st d l') : l = l' := by
  obtain ⟨d1, h1, _, h3⟩ := fz_ent (k := 0) h
  obtain ⟨d2, g1, _, g3⟩ := fz_ent (k := 0) h'
  rw [h1] at g1
  injection g1 with g1
  rw [← h3, ← g3, g1]
theorem fz_rows {st : Store} {k : Nat} : ∀ {ns : List Ino}, (∀ x ∈ ns, ∃ l, EntS st x.kd l) → ∃ ns', mapO (fz st (k + 2)) (rowsI ns) = some (rowsI ns') ∧ ns'.length = ns.length ∧ ∀ (j : Nat) (x : Ino), ns[j]? = some x → ∃ y, ns'[j]? = some y ∧ Frz st x y
  | [], _ => ⟨[], rfl, rfl, fun j x h => by simp at h⟩
  | x :: ns, h => by
    obtain ⟨ns', h1, h2, h3⟩ := fz_rows (k := k) (ns := ns) (fun y hy => h y (by simp [hy]))
    obtain ⟨l, hl⟩ := h x (by simp)
    obtain ⟨kd, g1, g2, g3⟩ := fz_ent (k := k) hl
    refine ⟨{ x with kd := kd } :: ns', ?_, by simp [h2], ?_⟩
    · rw [rowsI_cons, rowsI_cons]
      have e1 : ∀ (a : IntKind) (b : Int), fz st (k + 2) (.int a b) = some (.int a b) := fun a b => fz_0 (by simp only [refs])
      have e2 : ∀ b, fz st (k + 2) (.str b) = some (.str b) := fun b => fz_0 (by simp only [refs])
      simp only [mapO, e1, e2, g1, h1]
    · intro j y hy
      cases j with
      | zero =>
        simp only [List.getElem?_cons_zero, Option.some.injEq] at hy
        subst hy
        exact ⟨_, rfl, ⟨rfl, rfl, rfl, rfl, rfl, fun l' hl' => by show ents kd = l'; rw [g3]; exact hl.uniq hl', g2⟩⟩
      | succ j =>
        simp only [List.getElem?_cons_succ] at hy ⊢
        exact h3 j y hy
theorem fz_tree {st : Store} {k id ver : Nat} {rw : Bool} {ns : List Ino} {mx mb : Int} (hb : st[id]? = some (.cells ver rw 38 (rowsI ns))) (hk : ∀ x ∈ ns, ∃ l, EntS st x.kd l) (hn : ns.length ≤ 256) :
    ∃ t : Tr, fz st (k + 4) (.agg [.osl id ver 6 0 ns.length, .int .i64 mx, .int .i64 mb]) = some t.d ∧ t.Ok ∧ t.nodes.length = ns.length ∧ t.mx = mx ∧ t.mb = mb ∧ ∀ (j : Nat) (x : Ino), ns[j]? = some x → ∃ y, t.nodes[j]? = some y ∧ Frz st x y := by
  obtain ⟨ns', h1, h2, h3⟩ := fz_rows (k := k) hk
  have hrow : ((rowsI ns).drop 0).take (ns.length * 6) = rowsI ns := by rw [List.drop_zero, ← rowsI_length, List.take_length]
  have ho : fz st (k + 3) (.osl id ver 6 0 ns.length) = some (.fsl ns.length (rowsI ns')) := by
    unfold fz
    simp only [refs, List.isEmpty_cons, Bool.false_eq_true, if_false, hb]
    rw [if_neg (by simp), if_pos ⟨trivial, by rw [rowsI_length]; omega⟩, hrow, h1]
  refine ⟨⟨.fsl ns.length (rowsI ns'), ns', mx, mb⟩, ?_, ⟨.inr (.inr (by rw [h2])), ?_, by simp only []; omega, ?_⟩, h2, rfl, rfl, h3⟩
  · unfold fz
    have e1 : ∀ (a : IntKind) (b : Int), fz st (k + 3) (.int a b) = some (.int a b) := fun a b => fz_0 (by simp only [refs])
    simp only [refs, refsL, List.append_nil, List.isEmpty_cons, Bool.false_eq_true, if_false, mapO, ho, e1]
  · intro y hy
    obtain ⟨j, hj⟩ := List.getElem?_of_mem hy
    have hlt : j < ns'.length := (List.getElem?_eq_some_iff.1 hj).1
    obtain ⟨y', g1, g2⟩ := h3 j ns[j] (List.getElem?_eq_getElem (by omega))
    have hj : ns'[j]? = some y := hj
    rw [hj] at g1; injection g1 with g1; subst g1
    exact g2.ok
  · have : ∀ (l : List Ino), (∀ y ∈ l, KdOk y.kd) → refsL (rowsI l) = [] := by
      intro l
      induction l with
      | nil => intro _; rfl
      | cons y l ih =>
        intro h
        rw [rowsI_cons]
        simp only [refsL, refs, kd_refs (h y (by simp)), ih (fun z hz => h z (by simp [hz])), List.append_nil]
    simp only [refs]
    apply this
    intro y hy
    obtain ⟨j, hj⟩ := List.getElem?_of_mem hy
    have hlt : j < ns'.length := (List.getElem?_eq_some_iff.1 hj).1
    obtain ⟨y', g1, g2⟩ := h3 j ns[j] (List.getElem?_eq_getElem (by omega))
    have hj : ns'[j]? = some y := hj
    rw [hj] at g1; injection g1 with g1; subst g1
    exact g2.ok
theorem call_ro1 {f : FuncId} (hx : C.ext f = none) (hm : C.mode f = .keep) (hro : C.ro f = true) {pre : List D} {b v : Nat} {rw : Bool} {ty : TypeId} {cs : List D} {st : Store} (hpre : refsL pre = []) (hb : st[b]? = some (.cells v rw ty cs)) (hcs : refsL cs = [])
    {Q : D → Prop} (h : BodyW C TP f (pre ++ [.ptr 0 v 0]) [.cells v false ty cs] fun d st1 => refs d = [] ∧ (∃ g, st1 = .cells v false ty cs :: g) ∧ Q d) :
    CallW C TP f (pre ++ [.ptr b v 0]) st fun d st' => Q d ∧ st' = st := by
  have hk : kids st b = [] := by unfold kids; rw [hb]; exact hcs
  have hreach : reach st 6 (addNew [] (refsL (pre ++ [.ptr b v 0]))) = [b] := by
    have e1 : addNew [] (refsL (pre ++ [.ptr b v 0])) = [b] := by rw [refsL_app, hpre]; simp [refsL, refs, addNew]
    have hr : ∀ k, reach st k [b] = [b] := by
      intro k
      induction k with
      | zero => rfl
      | succ k ih =>
        unfold reach
        have : ([b] : List Nat).flatMap (kids st) = [] := by simp [hk]
        rw [this]
        exact ih
    rw [e1, hr]
  have hix : idxOf [b] b = some 0 := by simp [idxOf]
  have hrenapp : ∀ (l : List D), refsL l = [] → renL (idxOf [b]) (l ++ [.ptr b v 0]) = some (l ++ [.ptr 0 v 0]) := by
    intro l
    induction l with
    | nil => intro _; simp only [List.nil_append, renL, ren, hix]
    | cons d l ih =>
      intro h
      simp only [refsL, List.append_eq_nil_iff] at h
      simp only [List.cons_append, renL, ren_any _ d h.1, ih h.2]
  have htake : take (C.ro f) st (idxOf [b]) [b] = some [.cells v false ty cs] := by
    rw [hro]
    simp only [take, hb, renB, renL_any _ _ hcs, Bool.not_true, Bool.and_false]
  refine call_keep hx hm hreach (hrenapp pre hpre) htake (BodyW.mono h ?_)
  rintro d st1 ⟨hd, ⟨g, rfl⟩, hq⟩
  have hfin : finish (C.ro f) st [b] d (.cells v false ty cs :: g) = some (d, st) := by
    rw [hro]
    unfold finish
    have hk1 : kids (Blk.cells v false ty cs :: g) 0 = [] := hcs
    have hr : ∀ k, reach (Blk.cells v false ty cs :: g) k [0] = [0] := by
      intro k
      induction k with
      | zero => rfl
      | succ k ih =>
        unfold reach
        have : ([0] : List Nat).flatMap (kids (Blk.cells v false ty cs :: g)) = [] := by simp [hk1]
        rw [this]
        exact ih
    have e1 : (reach (Blk.cells v false ty cs :: g) 6 (addNew (List.range ([b] : List Nat).length) (refs d))).drop ([b] : List Nat).length = [] := by
      rw [hd]
      have : addNew (List.range ([b] : List Nat).length) [] = [0] := by simp [addNew, List.range_succ]
      rw [this, hr]; rfl
    simp only [e1]
    generalize (fun i => if i < ([b] : List Nat).length then ([b] : List Nat)[i]? else (idxOf [] i).map (st.length + ·)) = back
    simp [ren_any back d hd, take, renB, renL_any back _ hcs, List.range_succ, alive]
  rw [hfin]
  exact ⟨hq, rfl⟩
theorem d121 {st : Store} {b : Nat} {rw : Bool} {m d : Int} (hb : st[b]? = some (.cells 0 rw 3 [.int .i64 m])) : Does1 C TP 121 [.int .i64 d, .ptr b 0 0] st (.agg (Ino.row ⟨2, m, 0, emS, .nils, d⟩)) st := by
  refine does_of (call_ro1 (pre := [.int .i64 d]) rfl rfl rfl (by simp only [refsL, refs, List.append_nil]) hb (by simp only [refsL, refs, List.append_nil]) (body_h b121 (by show 2 ≤ 7; decide) ?_))
  simp -dsimp only [↓R0, RA, simprocAttr, ld38]
  exact ⟨by simp [refs, refsL], ⟨_, rfl⟩, rfl⟩
theorem d126 {st : Store} {b : Nat} {rw : Bool} {m d : Int} (hb : st[b]? = some (.cells 0 rw 3 [.int .i64 m])) : Does1 C TP 126 [.int .i64 d, .ptr b 0 0] st (.agg (Ino.row ⟨1, m, 0, emS, .nils, 0⟩)) st := by
  refine does_of (call_ro1 (pre := [.int .i64 d]) rfl rfl rfl (by simp only [refsL, refs, List.append_nil]) hb (by simp only [refsL, refs, List.append_nil]) (body_h b126 (by show 2 ≤ 6; decide) ?_))
  simp -dsimp only [↓R0, RA, simprocAttr, ld38]
  exact ⟨by simp [refs, refsL], ⟨_, rfl⟩, rfl⟩
theorem d112 {st : Store} {b : Nat} {rw : Bool} {s : ByteArray} {d : Int} (hb : st[b]? = some (.cells 0 rw 9 [.str s])) : Does1 C TP 112 [.int .i64 d, .ptr b 0 0] st (.agg (Ino.row ⟨3, 7, 0, s, .nils, 0⟩)) st := by
  refine does_of (call_ro1 (pre := [.int .i64 d]) rfl rfl rfl (by simp only [refsL, refs, List.append_nil]) hb (by simp only [refsL, refs, List.append_nil]) (body_h b112 (by show 2 ≤ 6; decide) ?_))
  simp -dsimp only [↓R0, RA, simprocAttr, ld38]
  exact ⟨by simp [refs, refsL], ⟨_, rfl⟩, rfl⟩
end
end Go.Mm
end
