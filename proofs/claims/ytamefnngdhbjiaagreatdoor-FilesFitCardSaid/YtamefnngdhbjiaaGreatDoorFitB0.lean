/- A part of the proof of FilesFitCardSaid: S20, S21, N8, S22, S23, S24, S25. -/
import Derived.Test.YtamefnngdhbjiaaGreatDoorFitA9
set_option linter.all false
section
namespace Go.Mm
open Go.Proofs
variable [Globs]
set_option maxRecDepth 8000
open Go.Proofs.Tryz renaming prog → TP
section
theorem rowsI_wr : ∀ (ns : List Ino) (k : Nat) (x : Ino), k < ns.length → wr (rowsI ns) (k * 6) x.row = rowsI (ns.set k x)
  | [], k, x, h => by simp at h
  | y :: ns, 0, x, h => by
    rw [rowsI_cons, Nat.zero_mul, List.set_cons_zero, rowsI_cons]; rfl
  | y :: ns, k + 1, x, h => by
    have ih := rowsI_wr ns k x (by simpa using h)
    rw [rowsI_cons, List.set_cons_succ, rowsI_cons, ← ih, show (k + 1) * 6 = k * 6 + 6 by omega]
    have gen : ∀ (vs : List D) (o : Nat) (a1 a2 a3 a4 a5 a6 : D) (cs : List D), wr (a1 :: a2 :: a3 :: a4 :: a5 :: a6 :: cs) (o + 6) vs = a1 :: a2 :: a3 :: a4 :: a5 :: a6 :: wr cs o vs := by
      intro vs
      induction vs with
      | nil => intros; rfl
      | cons v vs ih =>
        intro o a1 a2 a3 a4 a5 a6 cs
        simp only [wr]
        rw [show o + 6 + 1 = (o + 1) + 6 by omega]
        simp only [List.set_cons_succ]
        rw [ih]
    exact gen _ _ _ _ _ _ _ _ _
structure Maker (f : FuncId) (caps : List D) (x : Int → Ino) (st : Store) : Prop where
  does : ∀ (g : Store) (d : Int), Does1 C TP f (.int .i64 d :: caps) (st ++ g) (.agg (x d).row) (st ++ g)
  fp : ∀ (st' : Store) (ds : List D), fpC C st' (some (.fn f caps)) (some ds) = .touch [] st'.length
  links : ∀ d, (x d).links = 0
  kd : ∀ d, (x d).kd = .nils
structure Added (t : Tr) (cwd : Int) (p : ByteArray) (dirs : Bool) (room : Int) (x : Int → Ino) (st' : Store) (id : Nat) (k : Nat) (dd : Nat) (nm : ByteArray) (kd : D) (i : Nat) : Prop where
  fresh : t.fresh cwd p dirs = ((dd : Int), nm, 0)
  free : k < t.nodes.length ∧ (t.at (k : Int)).kind = 0
  dir : t.dir (dd : Int)
  none : t.kid (dd : Int) nm = -1
  name : NameOk nm
  room : room ≤ t.mb - t.sum
  few : (t.at (dd : Int)).kids.length < 1024
  blk : st'[id]? = some (.cells 1 true 38 (rowsI (enterN (t.nodes.set k (x dd)) dd kd k)))
  ile : i ≤ (t.at (dd : Int)).kids.length
  lo : ∀ j (h : j < (t.at (dd : Int)).kids.length), j < i → sLt (t.at (dd : Int)).kids[j].name nm = true
  hi : ∀ j (h : j < (t.at (dd : Int)).kids.length), i ≤ j → sLt (t.at (dd : Int)).kids[j].name nm = false
  ents : EntS st' kd (insE (t.at (dd : Int)).kids i ⟨nm, k⟩)
theorem T.parent_dir {t : Tr} (hT : T t) {cwd : Int} {p : ByteArray} (h : (t.parent cwd p).2.2 = 0) : t.dir (t.parent cwd p).1 := by
  unfold Tr.parent at h ⊢
  split at h
  · rename_i h1; exact absurd h h1
  · rename_i h1
    rw [if_neg h1]
    split at h
    · simp at h
    · rename_i nm r hl
      simp only [hl]
      simp only [] at h ⊢
      split at h
      · rename_i h2; exact absurd h h2
      · rename_i h2
        rw [if_neg h2]
        split at h
        · simp at h
        · rename_i h3
          rw [if_neg h3]
          exact Classical.not_not.1 h3
theorem T.fresh_ok {t : Tr} (hT : T t) {cwd : Int} {p : ByteArray} {dirs : Bool} (h : (t.fresh cwd p dirs).2.2 = 0) :
    t.dir (t.fresh cwd p dirs).1 ∧ NameOk (t.fresh cwd p dirs).2.1 ∧ t.kid (t.fresh cwd p dirs).1 (t.fresh cwd p dirs).2.1 = -1 := by
  unfold Tr.fresh at h ⊢
  simp only [] at h ⊢
  split at h
  · rename_i h1; exact absurd h h1
  · rename_i h1
    rw [if_neg h1]
    split at h
    · simp at h
    · rename_i h2
      rw [if_neg h2]
      split at h
      · simp at h
      · rename_i h3
        rw [if_neg h3]
        split at h
        · simp at h
        · rename_i h4
          rw [if_neg h4]
          have hd := hT.parent_dir (by simpa using h1)
          have hk : t.kid (t.parent cwd p).1 (t.parent cwd p).2.1 = -1 := by
            rcases hT.kid_cases (t.parent cwd p).1 (t.parent cwd p).2.1 with h | h
            · exact h
            · exact absurd (.inr h.2.2) h2
          split at h
          · simp at h
          · rename_i h5
            rw [if_neg h5]
            exact ⟨hd, Classical.not_not.1 h3, hk⟩
theorem d111 {st : Store} {t : Tr} {cwd room : Int} {p : ByteArray} {dirs : Bool} {f : FuncId} {caps : List D} {x : Int → Ino} (hT : T t) (hp : p.size ≤ 9223372036854775807) (hr : 0 ≤ room ∧ room ≤ 1000000) (hM : Maker f caps x st) :
    CallW C TP 111 [t.d, .int .i64 cwd, .str p, .bool dirs, .int .i64 room, .fn f caps] st fun r st' => (∀ i, i < st.length → st'[i]? = st[i]?) ∧ st.length ≤ st'.length ∧
      ((∃ e : Int, e ≠ 0 ∧ r = .tup [t.d, .int .i64 0, .int .i64 e]) ∨
       (∃ (id k dd : Nat) (nm : ByteArray) (kd : D) (i : Nat), r = .tup [.agg [.osl id 1 6 0 t.nodes.length, .int .i64 t.mx, .int .i64 t.mb], .int .i64 k, .int .i64 0] ∧ Added t cwd p dirs room x st' id k dd nm kd i)) := by
  refine call_th rfl rfl (body_h b111 (by show 6 ≤ 80; decide) ?_)
  have hfo := hT.fresh_ok (cwd := cwd) (p := p) (dirs := dirs)
  have g113 := s113 (cwd := cwd) (dirs := dirs) hT hp
  generalize hfr : t.fresh cwd p dirs = q at *
  obtain ⟨d, nm, e⟩ := q
  simp only [] at hfo g113
  obtain ⟨nu, hu⟩ := s150 hT
  obtain ⟨fk, hfk, hix⟩ := d151 hT (st := st ++ [.cells 0 true 24 t.c, .cells 0 true 24 [.nils, .int .i64 0, .int .i64 0]])
  simp -dsimp only [↓R0, RA, simprocAttr, RQ, hCall_g g113]
  apply hIf_d <;> intro he
  · obtain ⟨hd, hnm, hkid⟩ := hfo he
    have hmb := hT.fit.mb1
    have hmb0 := hT.fit.mb0
    have hsum := hT.sum_le
    have w1 : IntKind.i64.wrap (t.mb - t.sum) = t.mb - t.sum := by rw [w64] <;> omega
    simp -dsimp only [↓R0, RA, simprocAttr, RQ, he, hCall_g hu, hCall_d hix]
    apply hIf_d <;> intro hf0
    · simp -dsimp only [↓R0, RA, simprocAttr, RQ, hf0, ld24]
      refine ⟨fun i hi => List.getElem?_append_left hi, by simp, .inl ⟨28, by decide, rfl⟩⟩
    · simp -dsimp only [↓R0, RA, simprocAttr, RQ, hf0, w1]
      apply hIf_d <;> intro hr0
      · simp -dsimp only [↓R0, RA, simprocAttr, RQ, hf0, hr0, ld24]
        refine ⟨fun i hi => List.getElem?_append_left hi, by simp, .inl ⟨28, by decide, rfl⟩⟩
      · simp -dsimp only [↓R0, RA, simprocAttr, RQ, hf0, hr0, Tr.ixh hT.ok hd.1, Tr.c4 hd.1, (hT.kds hd.1).lnV]
        apply hIf_d <;> intro hk0
        · simp -dsimp only [↓R0, RA, simprocAttr, RQ, ld24]
          refine ⟨fun i hi => List.getElem?_append_left hi, by simp, .inl ⟨28, by decide, rfl⟩⟩
        · obtain ⟨g, hg, hown⟩ := d114 hT (st := st ++ [Blk.cells 0 true 24 t.c, .cells 0 true 24 [.nils, .int .i64 0, .int .i64 0]])
          obtain ⟨ga, gb, rfl⟩ : ∃ a b, g = [a, b] := by
            rcases g with _ | ⟨a, _ | ⟨b, _ | ⟨c, g⟩⟩⟩ <;> simp at hg
            exact ⟨a, b, rfl⟩
          obtain ⟨dd, rfl⟩ : ∃ n : Nat, d = n := ⟨d.toNat, by have := hd.1.1; omega⟩
          obtain ⟨hk1, hk2⟩ := hfk (by omega)
          obtain ⟨k, rfl⟩ : ∃ n : Nat, fk = n := ⟨fk.toNat, by omega⟩
          have hkl : k < t.nodes.length := by have := hk1.2; unfold Tr.n at this; omega
          have hdl : dd < t.nodes.length := by have := hd.1.2; unfold Tr.n at this; omega
          have hdk : k ≠ dd := by
            rintro rfl
            rw [hd.2] at hk2; cases hk2
          have hlen := hT.n
          simp only [List.length_append, List.length_cons, List.length_nil, Nat.zero_add, Nat.reduceAdd, List.append_assoc, List.cons_append, List.nil_append, show st.length + 2 + 2 = st.length + 4 by omega] at hown
          have b1 : (0 : Int) ≤ k := by omega
          have b2 : (k : Int) < (t.nodes.length : Nat) := by omega
          have hrl : ∀ y : Ino, y.row.length = 6 := fun y => rfl
          have l6 : (k * 6 + 6 ≤ (rowsI t.nodes).length) = True := by rw [rowsI_length]; simp; omega
          simp -dsimp only [↓R0, RA, simprocAttr, RQ, hCall_d hown, Tr.od]
          refine regX_h x111_9 c111_9 ?_
          simp -dsimp only [↓R0, RA, simprocAttr, RQ, ↓R5, R6, hCall_d (hM.does _ _), hM.fp]
          simp -dsimp only [↓R0, RA, simprocAttr, RQ, ↓R5, R6, osl_ix b1 b2, Int.toNat_natCast, hrl, l6, rowsI_wr _ _ _ hkl]
          refine ⟨by simp only [hM.fp]; simp [fpOk], ?_⟩
          have hnd : (t.nodes.set k (x dd))[dd]'(by simpa using hdl) = t.at (dd : Int) := by
            rw [at_nat hdl, List.getElem_set_ne hdk]
          have hnk : (t.nodes.set k (x dd))[k]'(by simpa using hkl) = x dd := by rw [List.getElem_set_self]
          have hkids := (hT.fit.dirs _ hd).2.2
          have h115 := d115 (st := st ++ [Blk.cells 0 true 24 t.c, .cells 0 true 24 [.nils, .int .i64 0, .int .i64 0], ga, gb, .cells 1 true 38 (rowsI (t.nodes.set k (x dd))),
            .cells 0 true 24 [.osl (st.length + 4) 1 6 0 t.nodes.length, .int .i64 t.mx, .int .i64 t.mb]]) (id := st.length + 4) (ver := 1) (dd := dd) (k := k) (ns := t.nodes.set k (x dd)) (mx := t.mx) (mb := t.mb) (nm := nm) (l := (t.at (dd : Int)).kids)
            (by rw [app_get]; rfl) (by simpa using hdl) (by simpa using hkl) (by simpa using hlen) (by rw [hnd]; exact .inl (hT.kds hd.1)) hkids.sorted (by omega) (by rw [hnk, hM.links]; omega)
          rw [List.length_set] at h115
          refine hCall_c h115 ?_
          rintro _ st2 ⟨kd, i, q1, q2, q3, q4, q5, q6, q7, q8⟩
          simp only [List.length_append, List.length_cons, List.length_nil, Nat.zero_add, Nat.reduceAdd] at q6 q7 q8
          have p5 : st2[st.length + 5]? = some (.cells 0 true 24 [.osl (st.length + 4) 1 6 0 t.nodes.length, .int .i64 t.mx, .int .i64 t.mb]) := by rw [q7 _ (by omega) (by omega), app_get]; rfl
          have p1 : st2[st.length + 1]? = some (.cells 0 true 24 [.nils, .int .i64 0, .int .i64 0]) := by rw [q7 _ (by omega) (by omega), app_get]; rfl
          have ps : ∀ b : Blk, (st2.set (st.length + 1) b)[st.length + 1]? = some b := fun b => get_set_eq p1
          simp -dsimp only [↓R0, RA, simprocAttr, RQ, p5, p1, ps, ld24]
          refine ⟨fun j hj => ?_, by rw [List.length_set]; omega, .inr ⟨st.length + 4, k, dd, nm, kd, i, rfl, ?_⟩⟩
          · rw [get_set_ne (by omega), q7 _ (by omega) (by omega), List.getElem?_append_left hj]
          · refine ⟨by rw [hfr, he], ⟨hkl, hk2⟩, hd, hkid, hnm, by omega, by omega, ?_, q2, q3, q4, ?_⟩
            · rw [get_set_ne (by omega)]; exact q1
            · refine q5.mono fun j hj => get_set_ne ?_
              have := q6 j hj
              omega
  · simp -dsimp only [↓R0, RA, simprocAttr, RQ, he, ld24]
    exact ⟨fun i hi => List.getElem?_append_left hi, by simp, .inl ⟨e, he, rfl⟩⟩
end
section
structure View where
  kind : Int
  mode : Int
  links : Int
  data : ByteArray
  kids : List Ent
  up : Int
def Ino.v (x : Ino) : View := ⟨x.kind, x.mode, x.links, x.data, x.kids, x.up⟩
theorem Frz.v {st : Store} {x y : Ino} (h : Frz st x y) {l : List Ent} (hl : EntS st x.kd l) : y.v = ⟨x.kind, x.mode, x.links, x.data, l, x.up⟩ := by
  unfold Ino.v
  rw [h.kind, h.mode, h.links, h.data, h.up, h.kids l hl]
structure Like (t t' : Tr) : Prop where
  ok : t'.Ok
  len : t'.nodes.length = t.nodes.length
  mx : t'.mx = t.mx
  mb : t'.mb = t.mb
structure Plus (t t' : Tr) (dd k : Nat) (nm : ByteArray) (y : View) : Prop where
  like : Like t t'
  ex : ∃ i, i ≤ (t.at (dd : Int)).kids.length ∧ (∀ j (h : j < (t.at (dd : Int)).kids.length), j < i → sLt (t.at (dd : Int)).kids[j].name nm = true) ∧
    (∀ j (h : j < (t.at (dd : Int)).kids.length), i ≤ j → sLt (t.at (dd : Int)).kids[j].name nm = false) ∧
    ∀ j : Nat, j < t.nodes.length → (t'.at (j : Int)).v = if j = k then y else if j = dd then { (t.at (j : Int)).v with kids := insE (t.at (dd : Int)).kids i ⟨nm, k⟩ } else (t.at (j : Int)).v
theorem enterN_get {ns : List Ino} {d k j : Nat} {kd : D} (hd : d < ns.length) (hk : k < ns.length) (hj : j < ns.length) :
    (enterN ns d kd k)[j]? = some (if j = k then (if k = d then ns[d].wkd kd else ns[k]).wln (lnk ns k + 1) else if j = d then ns[d].wkd kd else ns[j]) := by
  have hs : ∀ m (hm : m < ns.length), (setK ns d kd)[m]? = some (if m = d then ns[d].wkd kd else ns[m]) := by
    intro m hm
    unfold setK
    rw [List.getElem?_set]
    by_cases e : d = m
    · subst e; rw [if_pos rfl, if_pos hd, if_pos rfl, getD_at hd]
    · rw [if_neg e, if_neg (fun x => e x.symm), List.getElem?_eq_getElem hm]
  unfold enterN setL
  rw [List.getElem?_set]
  by_cases e : k = j
  · subst e
    rw [if_pos rfl, if_pos (by rw [setK_len]; exact hk), if_pos rfl, List.getD_eq_getElem?_getD, hs k hk]
    rfl
  · rw [if_neg e, hs j hj, if_neg (show ¬ j = k from fun x => e x.symm)]
theorem Added.frz {t : Tr} (hT : T t) {cwd room : Int} {p : ByteArray} {dirs : Bool} {x : Int → Ino} {st : Store} {id k dd i : Nat} {nm : ByteArray} {kd : D} {n : Nat} (h : Added t cwd p dirs room x st id k dd nm kd i) (hx : ∀ d, (x d).links = 0) (hxk : ∀ d, (x d).kd = .nils) :
    ∃ t' : Tr, fz st (n + 5) (.tup [.agg [.osl id 1 6 0 t.nodes.length, .int .i64 t.mx, .int .i64 t.mb], .int .i64 k, .int .i64 0]) = some (.tup [t'.d, .int .i64 k, .int .i64 0]) ∧
      Plus t t' dd k nm ⟨(x dd).kind, (x dd).mode, 1, (x dd).data, [], (x dd).up⟩ := by
  have hlen := hT.n
  have hkl := h.free.1
  have hdl : dd < t.nodes.length := by have := h.dir.1.2; unfold Tr.n at this; omega
  have hdk : k ≠ dd := by
    rintro rfl
    have := h.free.2; rw [h.dir.2] at this; cases this
  have hL : (t.nodes.set k (x dd)).length = t.nodes.length := by simp
  have get : ∀ j, j < t.nodes.length → (enterN (t.nodes.set k (x dd)) dd kd k)[j]? = some (if j = k then (x dd).wln 1 else if j = dd then (t.at (dd : Int)).wkd kd else t.at (j : Int)) := by
    intro j hj
    rw [enterN_get (by rw [hL]; exact hdl) (by rw [hL]; exact hkl) (by rw [hL]; exact hj)]
    have e1 : (t.nodes.set k (x dd))[dd]'(by rw [hL]; exact hdl) = t.at (dd : Int) := by rw [at_nat hdl, List.getElem_set_ne hdk]
    have e2 : (t.nodes.set k (x dd))[k]'(by rw [hL]; exact hkl) = x dd := by rw [List.getElem_set_self]
    have e3 : lnk (t.nodes.set k (x dd)) k = 0 := by unfold lnk; rw [getD_at (by rw [hL]; exact hkl), e2, hx]
    rw [if_neg hdk, e1, e2, e3]
    by_cases q1 : j = k
    · rw [if_pos q1, if_pos q1]; rfl
    · rw [if_neg q1, if_neg q1]
      by_cases q2 : j = dd
      · rw [if_pos q2, if_pos q2]
      · rw [if_neg q2, if_neg q2, List.getElem_set_ne (fun e => q1 e.symm), at_nat hj]
  have entj : ∀ j, j < t.nodes.length → EntS st (if j = k then (x dd).wln 1 else if j = dd then (t.at (dd : Int)).wkd kd else t.at (j : Int)).kd (if j = k then [] else if j = dd then insE (t.at (dd : Int)).kids i ⟨nm, k⟩ else (t.at (j : Int)).kids) := by
    intro j hj
    by_cases q1 : j = k
    · rw [if_pos q1, if_pos q1]
      exact .inl (.inl ⟨hxk dd, rfl, rfl⟩)
    · rw [if_neg q1, if_neg q1]
      by_cases q2 : j = dd
      · rw [if_pos q2, if_pos q2]; exact h.ents
      · rw [if_neg q2, if_neg q2]; exact .inl (hT.kds (has_nat hj))
  have hEl : (enterN (t.nodes.set k (x dd)) dd kd k).length = t.nodes.length := by unfold enterN; rw [setL_len, setK_len, hL]
  obtain ⟨t', f1, f2, f3, f4, f5, f6⟩ := fz_tree (k := n) (mx := t.mx) (mb := t.mb) h.blk (by
    intro y hy
    obtain ⟨j, hj⟩ := List.getElem?_of_mem hy
    have hjl : j < t.nodes.length := by have := (List.getElem?_eq_some_iff.1 hj).1; omega
    rw [get j hjl] at hj
    injection hj with hj
    rw [← hj]
    exact ⟨_, entj j hjl⟩) (by omega)
  rw [hEl] at f1 f3
  refine ⟨t', ?_, ⟨⟨f2, f3, f4, f5⟩, i, h.ile, h.lo, h.hi, ?_⟩⟩
  · unfold fz
    have e1 : ∀ (a : IntKind) (b : Int), fz st (n + 4) (.int a b) = some (.int a b) := fun a b => fz_0 (by simp only [refs])
    simp only [refs, refsL, List.append_nil, List.isEmpty_cons, Bool.false_eq_true, if_false, mapO, f1, e1]
  · intro j hj
    obtain ⟨y, g1, g2⟩ := f6 j _ (get j hj)
    have : t'.at (j : Int) = y := by
      have hj' : j < t'.nodes.length := by omega
      rw [at_nat hj']
      rw [List.getElem?_eq_getElem hj'] at g1
      exact Option.some.inj g1
    rw [this, g2.v (entj j hj)]
    by_cases q1 : j = k
    · simp only [if_pos q1]; rfl
    · simp only [if_neg q1]
      by_cases q2 : j = dd
      · subst q2; simp only [if_true]; rfl
      · simp only [if_neg q2]; rfl
def Made (t : Tr) (cwd : Int) (p : ByteArray) (dirs : Bool) (room : Int) (x : Int → Ino) (r : D) : Prop :=
  (∃ e : Int, e ≠ 0 ∧ r = .tup [t.d, .int .i64 0, .int .i64 e]) ∨
  (∃ (t' : Tr) (k dd : Nat) (nm : ByteArray), r = .tup [t'.d, .int .i64 k, .int .i64 0] ∧ t.fresh cwd p dirs = ((dd : Int), nm, 0) ∧ (k < t.nodes.length ∧ (t.at (k : Int)).kind = 0) ∧ t.dir (dd : Int) ∧ t.kid (dd : Int) nm = -1 ∧ NameOk nm ∧
    room ≤ t.mb - t.sum ∧ (t.at (dd : Int)).kids.length < 1024 ∧ Plus t t' dd k nm ⟨(x dd).kind, (x dd).mode, 1, (x dd).data, [], (x dd).up⟩)
theorem made_of {t : Tr} (hT : T t) {cwd room : Int} {p : ByteArray} {dirs : Bool} {x : Int → Ino} {st st' : Store} {r : D} (hx : ∀ d, (x d).links = 0) (hxk : ∀ d, (x d).kd = .nils)
    (h : (∃ e : Int, e ≠ 0 ∧ r = .tup [t.d, .int .i64 0, .int .i64 e]) ∨
       (∃ (id k dd : Nat) (nm : ByteArray) (kd : D) (i : Nat), r = .tup [.agg [.osl id 1 6 0 t.nodes.length, .int .i64 t.mx, .int .i64 t.mb], .int .i64 k, .int .i64 0] ∧ Added t cwd p dirs room x st id k dd nm kd i))
    (hst : ∀ (i v : Nat) (rw : Bool) (ty : TypeId) (cs : List D), ty ≠ 24 → st[i]? = some (Blk.cells v rw ty cs) → st'[i]? = some (Blk.cells v rw ty cs)) : ∃ d, fz st' 8 r = some d ∧ Made t cwd p dirs room x d := by
  rcases h with ⟨e, he, rfl⟩ | ⟨id, k, dd, nm, kd, i, rfl, hA⟩
  · exact ⟨_, fz_0 (by simp only [refs, refsL, hT.ok.ref, List.append_nil]), .inl ⟨e, he, rfl⟩⟩
  · have hA' : Added t cwd p dirs room x st' id k dd nm kd i := { hA with
      blk := hst _ _ _ 38 _ (by decide) hA.blk
      ents := by
        rcases hA.ents with h | ⟨id', ver, rw', tl, h1, h2, h3⟩
        · exact .inl h
        · exact .inr ⟨id', ver, rw', tl, h1, hst _ _ _ 71 _ (by decide) h2, h3⟩ }
    obtain ⟨t', f1, f2⟩ := hA'.frz hT (n := 3) hx hxk
    exact ⟨_, f1, .inr ⟨t', k, dd, nm, rfl, hA.fresh, hA.free, hA.dir, hA.none, hA.name, hA.room, hA.few, f2⟩⟩
def mkD (m : Int) (d : Int) : Ino := ⟨2, m, 0, emS, .nils, d⟩
def mkF (m : Int) (_ : Int) : Ino := ⟨1, m, 0, emS, .nils, 0⟩
def mkS (s : ByteArray) (_ : Int) : Ino := ⟨3, 7, 0, s, .nils, 0⟩
theorem ref5 {t : Tr} (ok : t.Ok) {k m : Int} {s : ByteArray} : refsL [t.d, .int .i64 k, .str s, .int .i64 m] = [] := by simp only [refsL, refs, Tr.d, Tr.c, ok.ref, List.append_nil]
theorem s67 {t : Tr} (hT : T t) {cwd m : Int} {p : ByteArray} (hp : p.size ≤ 9223372036854775807) (hm : 0 ≤ m ∧ m ≤ 7) : ∃ d, Gives C TP 67 [t.d, .int .i64 cwd, .str p, .int .i64 m] d ∧ Made t cwd p true 0 (mkD m) d := by
  refine frz_ex rfl rfl (ref5 hT.ok) (body_h b67 (by show 4 ≤ 22; decide) ?_)
  simp -dsimp only [↓R0, RA, simprocAttr, hCall_g s120, decide_eq_true hm]
  have hM : Maker 121 [.ptr 1 0 0] (mkD m) [Blk.cells 0 true 24 t.c, .cells 0 true 3 [.int .i64 m], .cells 0 true 24 [.nils, .int .i64 0, .int .i64 0]] :=
    ⟨fun g d => d121 (rw := true) rfl, fun _ _ => rfl, fun _ => rfl, fun _ => rfl⟩
  refine hCall_c (d111 (dirs := true) (room := 0) (cwd := cwd) hT hp (by decide) hM) ?_
  rintro r st' ⟨hf, hlen, hr⟩
  have h2 : st'[2]? = some (.cells 0 true 24 [.nils, .int .i64 0, .int .i64 0]) := hf 2 (by simp)
  have hs2 : ∀ b : Blk, (st'.set 2 b)[2]? = some b := fun b => get_set_eq h2
  rcases hr with ⟨e, he, rfl⟩ | ⟨id, k, dd, nm, kd, i, rfl, hA⟩
  · simp -dsimp only [↓R0, RA, simprocAttr, h2, hs2, ld24]
    refine ⟨_, fz_0 (by simp only [refs, refsL, hT.ok.ref, List.append_nil]), .inl ⟨e, he, rfl⟩⟩
  · simp -dsimp only [↓R0, RA, simprocAttr, h2, hs2, ld24]
    exact made_of hT (x := mkD m) (fun _ => rfl) (fun _ => rfl) (.inr ⟨id, k, dd, nm, kd, i, rfl, hA⟩) (fun i v rw ty cs hty hi => by
      rw [get_set_ne ?_]; exact hi
      rintro rfl
      rw [h2] at hi
      injection hi with hi; injection hi with _ _ hi
      exact hty hi.symm)
theorem s77 {t : Tr} (hT : T t) {cwd m : Int} {p : ByteArray} (hp : p.size ≤ 9223372036854775807) (hm : 0 ≤ m ∧ m ≤ 7) : ∃ d, Gives C TP 77 [t.d, .int .i64 cwd, .str p, .int .i64 m] d ∧ Made t cwd p false 0 (mkF m) d := by
  refine frz_ex rfl rfl (ref5 hT.ok) (body_h b77 (by show 4 ≤ 22; decide) ?_)
  simp -dsimp only [↓R0, RA, simprocAttr, hCall_g s120, decide_eq_true hm]
  have hM : Maker 126 [.ptr 1 0 0] (mkF m) [Blk.cells 0 true 24 t.c, .cells 0 true 3 [.int .i64 m], .cells 0 true 24 [.nils, .int .i64 0, .int .i64 0]] :=
    ⟨fun g d => d126 (rw := true) rfl, fun _ _ => rfl, fun _ => rfl, fun _ => rfl⟩
  refine hCall_c (d111 (dirs := false) (room := 0) (cwd := cwd) hT hp (by decide) hM) ?_
  rintro r st' ⟨hf, hlen, hr⟩
  have h2 : st'[2]? = some (.cells 0 true 24 [.nils, .int .i64 0, .int .i64 0]) := hf 2 (by simp)
  have hs2 : ∀ b : Blk, (st'.set 2 b)[2]? = some b := fun b => get_set_eq h2
  rcases hr with ⟨e, he, rfl⟩ | ⟨id, k, dd, nm, kd, i, rfl, hA⟩
  · simp -dsimp only [↓R0, RA, simprocAttr, h2, hs2, ld24]
    refine ⟨_, fz_0 (by simp only [refs, refsL, hT.ok.ref, List.append_nil]), .inl ⟨e, he, rfl⟩⟩
  · simp -dsimp only [↓R0, RA, simprocAttr, h2, hs2, ld24]
    exact made_of hT (x := mkF m) (fun _ => rfl) (fun _ => rfl) (.inr ⟨id, k, dd, nm, kd, i, rfl, hA⟩) (fun i v rw ty cs hty hi => by
      rw [get_set_ne ?_]; exact hi
      rintro rfl
      rw [h2] at hi
      injection hi with hi; injection hi with _ _ hi
      exact hty hi.symm)
theorem ref4s {t : Tr} (ok : t.Ok) {k : Int} {s s' : ByteArray} : refsL [t.d, .int .i64 k, .str s, .str s'] = [] := by simp only [refsL, refs, Tr.d, Tr.c, ok.ref, List.append_nil]
theorem s62 {t : Tr} (hT : T t) {cwd : Int} {s p : ByteArray} (hs : s.size ≤ 9223372036854775807) (hp : p.size ≤ 9223372036854775807) :
    ∃ d, Gives C TP 62 [t.d, .int .i64 cwd, .str s, .str p] d ∧ (Made t cwd p false s.size (mkS s) d ∧ (s = emS ∨ 0 ∈ bl s ∨ 1024 < s.size → ∃ e : Int, e ≠ 0 ∧ d = .tup [t.d, .int .i64 0, .int .i64 e])) := by
  refine frz_ex rfl rfl (ref4s hT.ok) (body_h b62 (by show 4 ≤ 35; decide) ?_)
  have bad : ∀ (e : Int) (st : Store), e ≠ 0 → ∃ d, fz st 8 (.tup [t.d, .int .i64 0, .int .i64 e]) = some d ∧ (Made t cwd p false s.size (mkS s) d ∧ (s = emS ∨ 0 ∈ bl s ∨ 1024 < s.size → ∃ e : Int, e ≠ 0 ∧ d = .tup [t.d, .int .i64 0, .int .i64 e])) :=
    fun e st he => ⟨_, fz_0 (by simp only [refs, refsL, hT.ok.ref, List.append_nil]), .inl ⟨e, he, rfl⟩, fun _ => ⟨e, he, rfl⟩⟩
  simp -dsimp only [↓R0, RA, simprocAttr]
  apply hIf_d <;> intro h1
  · simp -dsimp only [↓R0, RA, simprocAttr, decide_eq_true h1, ld24]
    exact bad 22 _ (by decide)
  · simp -dsimp only [↓R0, RA, simprocAttr, decide_eq_false h1, hCall_g s36]
    apply hIf_d <;> intro h2
    · simp -dsimp only [↓R0, RA, simprocAttr, ld24]
      exact bad 22 _ (by decide)
    · simp -dsimp only [↓R0, RA, simprocAttr]
      apply hIf_d <;> intro h3
      · simp -dsimp only [↓R0, RA, simprocAttr, ld24]
        exact bad 36 _ (by decide)
      · simp -dsimp only [↓R0, RA, simprocAttr]
        have hM : Maker 112 [.ptr 1 0 0] (mkS s) [Blk.cells 0 true 24 t.c, .cells 0 true 9 [.str s], .cells 0 true 24 [.nils, .int .i64 0, .int .i64 0]] :=
          ⟨fun g d => d112 (rw := true) rfl, fun _ _ => rfl, fun _ => rfl, fun _ => rfl⟩
        refine hCall_c (d111 (dirs := false) (room := s.size) (cwd := cwd) hT hp (by omega) hM) ?_
        rintro r st' ⟨hf, hlen, hr⟩
        have h2' : st'[2]? = some (.cells 0 true 24 [.nils, .int .i64 0, .int .i64 0]) := hf 2 (by simp)
        have hs2 : ∀ b : Blk, (st'.set 2 b)[2]? = some b := fun b => get_set_eq h2'
        have hno : ¬ (s = emS ∨ 0 ∈ bl s ∨ 1024 < s.size) := by
          rintro (h | h | h)
          · exact h1 h
          · rcases ixB_spec (c := 0) (bl s) 0 with ⟨_, q⟩ | ⟨n, q, _⟩
            · exact q h
            · apply h2
              have : UInt8.ofNat 0 = 0 := rfl
              (try rw [this]); rw [q]; omega
          · omega
        replace h2 := h2'
        rcases hr with ⟨e, he, rfl⟩ | ⟨id, k, dd, nm, kd, i, rfl, hA⟩
        · simp -dsimp only [↓R0, RA, simprocAttr, h2, hs2, ld24]
          exact bad e _ he
        · simp -dsimp only [↓R0, RA, simprocAttr, h2, hs2, ld24]
          refine Exists.imp (fun d h => ⟨h.1, h.2, fun h' => absurd h' hno⟩) (made_of hT (x := mkS s) (fun _ => rfl) (fun _ => rfl) (.inr ⟨id, k, dd, nm, kd, i, rfl, hA⟩) (fun i v rw ty cs hty hi => by
            rw [get_set_ne ?_]; exact hi
            rintro rfl
            rw [h2] at hi
            injection hi with hi; injection hi with _ _ hi
            exact hty hi.symm))
structure PlusL (t t' : Tr) (dd k : Nat) (nm : ByteArray) : Prop where
  like : Like t t'
  ex : ∃ i, i ≤ (t.at (dd : Int)).kids.length ∧ (∀ j (h : j < (t.at (dd : Int)).kids.length), j < i → sLt (t.at (dd : Int)).kids[j].name nm = true) ∧
    (∀ j (h : j < (t.at (dd : Int)).kids.length), i ≤ j → sLt (t.at (dd : Int)).kids[j].name nm = false) ∧
    ∀ j : Nat, j < t.nodes.length → (t'.at (j : Int)).v = if j = k then { (t.at (j : Int)).v with links := (t.at (j : Int)).links + 1 } else if j = dd then { (t.at (j : Int)).v with kids := insE (t.at (dd : Int)).kids i ⟨nm, k⟩ } else (t.at (j : Int)).v
theorem link_frz {t : Tr} (hT : T t) {st : Store} {id ver k dd i : Nat} {nm : ByteArray} {kd : D} {n : Nat} (hd : t.dir (dd : Int)) (hkl : k < t.nodes.length) (hdk : k ≠ dd)
    (hblk : st[id]? = some (.cells ver true 38 (rowsI (enterN t.nodes dd kd k)))) (ile : i ≤ (t.at (dd : Int)).kids.length)
    (lo : ∀ j (h : j < (t.at (dd : Int)).kids.length), j < i → sLt (t.at (dd : Int)).kids[j].name nm = true)
    (hi : ∀ j (h : j < (t.at (dd : Int)).kids.length), i ≤ j → sLt (t.at (dd : Int)).kids[j].name nm = false)
    (hents : EntS st kd (insE (t.at (dd : Int)).kids i ⟨nm, k⟩)) :
    ∃ t' : Tr, fz st (n + 4) (.agg [.osl id ver 6 0 t.nodes.length, .int .i64 t.mx, .int .i64 t.mb]) = some t'.d ∧ PlusL t t' dd k nm := by
  have hlen := hT.n
  have hdl : dd < t.nodes.length := by have := hd.1.2; unfold Tr.n at this; omega
  have get : ∀ j, j < t.nodes.length → (enterN t.nodes dd kd k)[j]? = some (if j = k then (t.at (k : Int)).wln ((t.at (k : Int)).links + 1) else if j = dd then (t.at (dd : Int)).wkd kd else t.at (j : Int)) := by
    intro j hj
    rw [enterN_get hdl hkl hj]
    have e3 : lnk t.nodes k = (t.at (k : Int)).links := by unfold lnk; rw [getD_at hkl, at_nat hkl]
    rw [if_neg hdk, e3, ← at_nat hkl, ← at_nat hdl]
    by_cases q1 : j = k
    · rw [if_pos q1, if_pos q1]
    · rw [if_neg q1, if_neg q1]
      by_cases q2 : j = dd
      · rw [if_pos q2, if_pos q2]
      · rw [if_neg q2, if_neg q2, at_nat hj]
  have entj : ∀ j, j < t.nodes.length → EntS st (if j = k then (t.at (k : Int)).wln ((t.at (k : Int)).links + 1) else if j = dd then (t.at (dd : Int)).wkd kd else t.at (j : Int)).kd (if j = k then (t.at (k : Int)).kids else if j = dd then insE (t.at (dd : Int)).kids i ⟨nm, k⟩ else (t.at (j : Int)).kids) := by
    intro j hj
    by_cases q1 : j = k
    · rw [if_pos q1, if_pos q1]
      exact .inl (hT.kds (has_nat hkl))
    · rw [if_neg q1, if_neg q1]
      by_cases q2 : j = dd
      · rw [if_pos q2, if_pos q2]; exact hents
      · rw [if_neg q2, if_neg q2]; exact .inl (hT.kds (has_nat hj))
  have hEl : (enterN t.nodes dd kd k).length = t.nodes.length := by unfold enterN; rw [setL_len, setK_len]
  obtain ⟨t', f1, f2, f3, f4, f5, f6⟩ := fz_tree (k := n) (mx := t.mx) (mb := t.mb) hblk (by
    intro y hy
    obtain ⟨j, hj⟩ := List.getElem?_of_mem hy
    have hjl : j < t.nodes.length := by have := (List.getElem?_eq_some_iff.1 hj).1; omega
    rw [get j hjl] at hj
    injection hj with hj
    rw [← hj]
    exact ⟨_, entj j hjl⟩) (by omega)
  rw [hEl] at f1 f3
  refine ⟨t', f1, ⟨⟨f2, f3, f4, f5⟩, i, ile, lo, hi, ?_⟩⟩
  intro j hj
  obtain ⟨y, g1, g2⟩ := f6 j _ (get j hj)
  have : t'.at (j : Int) = y := by
    have hj' : j < t'.nodes.length := by omega
    rw [at_nat hj']
    rw [List.getElem?_eq_getElem hj'] at g1
    exact Option.some.inj g1
  rw [this, g2.v (entj j hj)]
  by_cases q1 : j = k
  · subst q1; simp only [if_true]; rfl
  · simp only [if_neg q1]
    by_cases q2 : j = dd
    · subst q2; simp only [if_true]; rfl
    · simp only [if_neg q2]; rfl
theorem T.kids_le {t : Tr} (hT : T t) {k : Int} (hk : t.has k) : (t.at k).kids.length ≤ 1024 := by
  by_cases hd : t.dir k
  · exact (hT.fit.dirs k hd).2.1
  · have ha := (hT.fit.one k hk).1
    have hkind : (t.at k).kind ≠ 2 := fun h => hd ⟨hk, h⟩
    have : (t.at k).kids = [] := by
      rcases ha.kind with h | h | h | h
      · exact (ha.free h).2.2.2.1
      · exact (ha.file h).1
      · exact absurd h hkind
      · exact (ha.link h).2.1
    rw [this]; simp
theorem sum_le_mul {l : List Nat} {b : Nat} (h : ∀ x ∈ l, x ≤ b) : l.sum ≤ l.length * b := by
  induction l with
  | nil => simp
  | cons x l ih =>
    rw [List.sum_cons, List.length_cons, Nat.add_mul, Nat.one_mul]
    have := h x (by simp)
    have := ih (fun y hy => h y (by simp [hy]))
    omega
theorem T.cnt_le {t : Tr} (hT : T t) {k : Int} : t.cnt k ≤ 262144 := by
  unfold Tr.cnt
  refine Nat.le_trans List.countP_le_length ?_
  rw [List.length_flatMap]
  refine Nat.le_trans (sum_le_mul (b := 1024) ?_) ?_
  · intro n hn
    obtain ⟨x, hx, rfl⟩ := List.mem_map.1 hn
    obtain ⟨j, hj, rfl⟩ := List.getElem_of_mem hx
    rw [← at_nat hj]
    exact hT.kids_le (has_nat hj)
  · rw [List.length_map]
    have := hT.n
    omega
theorem T.links_le {t : Tr} (hT : T t) {k : Int} (hk : t.has k) : 0 ≤ (t.at k).links ∧ (t.at k).links ≤ 1000000 := by
  rw [hT.fit.links k hk]
  have := hT.cnt_le (k := k)
  omega
theorem T.walk_live {t : Tr} (hT : T t) {cwd : Int} {p : ByteArray} {follow : Bool} (h : (t.walk cwd p follow).2 = 0) : t.live (t.walk cwd p follow).1 := by
  unfold Tr.walk at h ⊢
  split at h
  · rename_i hb; exact absurd h hb
  · rename_i hb
    rw [if_neg hb]
    simp only [] at h ⊢
    have hc : t.dir cwd := by
      unfold Tr.bad at hb
      split at hb
      · exact absurd (by decide) hb
      · rename_i h1; exact Classical.not_not.1 (fun h => h1 (.inr h))
    have hl : t.live (beg cwd p) := by
      unfold beg
      split
      · exact Tr.dir_live hT.dir0
      · exact Tr.dir_live hc
    split at h
    · simp at h
    · rename_i h2
      rw [if_neg h2]
      exact (hT.way_end hl).1 h
theorem ref4l {t : Tr} (ok : t.Ok) {k : Int} {s s' : ByteArray} : refsL [t.d, .int .i64 k, .str s, .str s'] = [] := ref4s ok
theorem s63 {t : Tr} (hT : T t) {cwd : Int} {o p : ByteArray} (ho : o.size ≤ 9223372036854775807) (hp : p.size ≤ 9223372036854775807) :
    ∃ d, Gives C TP 63 [t.d, .int .i64 cwd, .str o, .str p] d ∧ ((∃ e : Int, e ≠ 0 ∧ d = .tup [t.d, .int .i64 e]) ∨
      ∃ (t' : Tr) (k dd : Nat) (nm : ByteArray), d = .tup [t'.d, .int .i64 0] ∧ t.walk cwd o false = ((k : Int), 0) ∧ (t.at (k : Int)).kind ≠ 2 ∧ t.fresh cwd p false = ((dd : Int), nm, 0) ∧ (t.at (dd : Int)).kids.length < 1024 ∧ PlusL t t' dd k nm) := by
  refine frz_ex rfl rfl (ref4l hT.ok) (body_h b63 (by show 4 ≤ 67; decide) ?_)
  have bad : ∀ (e : Int) (st : Store), e ≠ 0 → ∃ d, fz st 8 (.tup [t.d, .int .i64 e]) = some d ∧ ((∃ e : Int, e ≠ 0 ∧ d = .tup [t.d, .int .i64 e]) ∨
      ∃ (t' : Tr) (k dd : Nat) (nm : ByteArray), d = .tup [t'.d, .int .i64 0] ∧ t.walk cwd o false = ((k : Int), 0) ∧ (t.at (k : Int)).kind ≠ 2 ∧ t.fresh cwd p false = ((dd : Int), nm, 0) ∧ (t.at (dd : Int)).kids.length < 1024 ∧ PlusL t t' dd k nm) :=
    fun e st he => ⟨_, fz_0 (by simp only [refs, refsL, hT.ok.ref, List.append_nil]), .inl ⟨e, he, rfl⟩⟩
  have hfo := hT.fresh_ok (cwd := cwd) (p := p) (dirs := false)
  have g113 := s113 (cwd := cwd) (dirs := false) hT hp
  generalize hfr : t.fresh cwd p false = q at *
  obtain ⟨d, nm, e⟩ := q
  simp only [] at hfo g113
  have g96 := s96 (cwd := cwd) (follow := false) hT ho
  have hwl := hT.walk_live (cwd := cwd) (p := o) (follow := false)
  generalize hw : t.walk cwd o false = q at *
  obtain ⟨k, e1⟩ := q
  simp only [] at g96 hwl
  simp -dsimp only [↓R0, RA, simprocAttr, hCall_g g96]
  apply hIf_d <;> intro h1
  rotate_left
  · simp -dsimp only [↓R0, RA, simprocAttr, ld24]
    exact bad e1 _ h1
  · subst h1
    have hk := hwl rfl
    simp -dsimp only [↓R0, RA, simprocAttr, Tr.ixh hT.ok hk.1, Tr.c0 hk.1]
    apply hIf_d <;> intro h2
    · simp -dsimp only [↓R0, RA, simprocAttr, ld24]
      exact bad 1 _ (by decide)
    · simp -dsimp only [↓R0, RA, simprocAttr, hCall_g g113]
      apply hIf_d <;> intro h3
      rotate_left
      · simp -dsimp only [↓R0, RA, simprocAttr, ld24]
        exact bad e _ h3
      · subst h3
        obtain ⟨hd, hnm, hkid⟩ := hfo rfl
        simp -dsimp only [↓R0, RA, simprocAttr, Tr.ixh hT.ok hd.1, Tr.c4 hd.1, (hT.kds hd.1).lnV]
        apply hIf_d <;> intro h4
        · simp -dsimp only [↓R0, RA, simprocAttr, ld24]
          exact bad 28 _ (by decide)
        · obtain ⟨dd, rfl⟩ : ∃ n : Nat, d = n := ⟨d.toNat, by have := hd.1.1; omega⟩
          obtain ⟨k, rfl⟩ : ∃ n : Nat, k = n := ⟨k.toNat, by have := hk.1.1; omega⟩
          have hkl : k < t.nodes.length := by have := hk.1.2; unfold Tr.n at this; omega
          have hdl : dd < t.nodes.length := by have := hd.1.2; unfold Tr.n at this; omega
          have hdk : k ≠ dd := by
            rintro rfl
            exact h2 hd.2
          obtain ⟨g, hg, hown⟩ := d114 hT (st := [Blk.cells 0 true 24 t.c, .cells 0 true 24 [.nils, .int .i64 0, .int .i64 0]])
          obtain ⟨ga, gb, rfl⟩ : ∃ a b, g = [a, b] := by
            rcases g with _ | ⟨a, _ | ⟨b, _ | ⟨c, g⟩⟩⟩ <;> simp at hg
            exact ⟨a, b, rfl⟩
          have hkids := (hT.fit.dirs _ hd).2.2
          have hlb := hT.links_le (k := (k : Int)) hk.1
          have h115 := d115 (st := [Blk.cells 0 true 24 t.c, .cells 0 true 24 [.nils, .int .i64 0, .int .i64 0], ga, gb, .cells 1 true 38 (rowsI t.nodes), .cells 0 true 24 [.osl 4 1 6 0 t.nodes.length, .int .i64 t.mx, .int .i64 t.mb]])
            (id := 4) (ver := 1) (dd := dd) (k := k) (ns := t.nodes) (mx := t.mx) (mb := t.mb) (nm := nm) (l := (t.at (dd : Int)).kids)
            rfl hdl hkl hT.n (by rw [← at_nat hdl]; exact .inl (hT.kds hd.1)) hkids.sorted (by omega) (by rw [← at_nat hkl]; exact hlb)
          have hown' : Does1 C TP 114 [t.d] [Blk.cells 0 true 24 t.c, .cells 0 true 24 [.nils, .int .i64 0, .int .i64 0]] (.agg (t.od 4 1)) [Blk.cells 0 true 24 t.c, .cells 0 true 24 [.nils, .int .i64 0, .int .i64 0], ga, gb, .cells 1 true 38 (rowsI t.nodes)] := hown
          simp -dsimp only [↓R0, RA, simprocAttr, hCall_d hown', Tr.od]
          refine hCall_c h115 ?_
          rintro _ st2 ⟨kd, i, q1, q2, q3, q4, q5, q6, q7, q8⟩
          have p5 : st2[5]? = some (.cells 0 true 24 [.osl 4 1 6 0 t.nodes.length, .int .i64 t.mx, .int .i64 t.mb]) := by rw [q7 _ (by simp) (by simp)]; rfl
          have p1 : st2[1]? = some (.cells 0 true 24 [.nils, .int .i64 0, .int .i64 0]) := by rw [q7 _ (by simp) (by simp)]; rfl
          have ps : ∀ b : Blk, (st2.set 1 b)[1]? = some b := fun b => get_set_eq p1
          simp -dsimp only [↓R0, RA, simprocAttr, p5, p1, ps, ld24]
          obtain ⟨t', f1, f2⟩ := link_frz hT (st := st2.set 1 (.cells 0 true 24 [.osl 4 1 6 0 t.nodes.length, .int .i64 t.mx, .int .i64 t.mb])) (n := 3) (id := 4) (ver := 1) hd hkl hdk (by rw [get_set_ne (by omega)]; exact q1) q2 q3 q4 (q5.mono fun j hj => get_set_ne (by
            have h6 := q6 j hj
            simp only [List.length_cons, List.length_nil] at h6
            omega))
          refine ⟨.tup [t'.d, .int .i64 0], ?_, .inr ⟨t', k, dd, nm, rfl, rfl, h2, rfl, by omega, f2⟩⟩
          unfold fz
          have e1 : ∀ (a : IntKind) (b : Int), fz (st2.set 1 (.cells 0 true 24 [.osl 4 1 6 0 t.nodes.length, .int .i64 t.mx, .int .i64 t.mb])) 7 (.int a b) = some (.int a b) := fun a b => fz_0 (by simp only [refs])
          simp only [refs, refsL, List.append_nil, List.isEmpty_cons, Bool.false_eq_true, if_false, mapO, f1, e1]
end
end Go.Mm
end
section
namespace Go.Mm
variable [Globs]
section
def sumN (n : Nat) (f : Nat → Nat) : Nat := ((List.range n).map f).sum
theorem sumN_0 {f : Nat → Nat} : sumN 0 f = 0 := rfl
theorem sumN_s {n : Nat} {f : Nat → Nat} : sumN (n + 1) f = sumN n f + f n := by
  unfold sumN
  rw [List.range_succ, List.map_append, List.sum_append]
  simp
theorem sumN_upd {n a b : Nat} {f g : Nat → Nat} {x y : Int} (ha : a < n) (hb : b < n) (h : ∀ i, i < n → (g i : Int) = f i + (if i = a then x else 0) + (if i = b then y else 0)) : (sumN n g : Int) = sumN n f + x + y := by
  have key : ∀ m, m ≤ n → (sumN m g : Int) = sumN m f + (if a < m then x else 0) + (if b < m then y else 0) := by
    intro m
    induction m with
    | zero => intro _; simp [sumN_0]
    | succ m ih =>
      intro hm
      rw [sumN_s, sumN_s]
      have h1 := ih (by omega)
      have h2 := h m (by omega)
      by_cases e1 : m = a
      · subst e1
        rw [if_pos rfl] at h2
        rw [if_neg (by omega)] at h1
        rw [if_pos (by omega)]
        by_cases e2 : m = b
        · subst e2
          rw [if_pos rfl] at h2
          rw [if_neg (by omega)] at h1
          rw [if_pos (by omega)]
          omega
        · rw [if_neg e2] at h2
          by_cases e3 : b < m
          · rw [if_pos e3] at h1; rw [if_pos (by omega)]; omega
          · rw [if_neg e3] at h1; rw [if_neg (by omega)]; omega
      · rw [if_neg e1] at h2
        have ea : (if a < m + 1 then x else 0) = (if a < m then x else 0) := by
          by_cases e3 : a < m
          · rw [if_pos e3, if_pos (by omega)]
          · rw [if_neg e3, if_neg (by omega)]
        rw [ea]
        by_cases e2 : m = b
        · subst e2
          rw [if_pos rfl] at h2
          rw [if_neg (show ¬ m < m by omega)] at h1
          rw [if_pos (show m < m + 1 by omega)]
          omega
        · rw [if_neg e2] at h2
          have eb : (if b < m + 1 then y else 0) = (if b < m then y else 0) := by
            by_cases e3 : b < m
            · rw [if_pos e3, if_pos (by omega)]
            · rw [if_neg e3, if_neg (by omega)]
          rw [eb]
          omega
  have := key n (Nat.le_refl n)
  rw [if_pos ha, if_pos hb] at this
  exact this
theorem sumN_pos {n i : Nat} {f : Nat → Nat} (hi : i < n) (h : 0 < f i) : 0 < sumN n f := by
  induction n with
  | zero => omega
  | succ n ih =>
    rw [sumN_s]
    by_cases e : i = n
    · subst e; omega
    · have := ih (by omega); omega
theorem sumN_ex {n : Nat} {f : Nat → Nat} (h : 0 < sumN n f) : ∃ i, i < n ∧ 0 < f i := by
  induction n with
  | zero => rw [sumN_0] at h; omega
  | succ n ih =>
    rw [sumN_s] at h
    by_cases e : 0 < f n
    · exact ⟨n, by omega, e⟩
    · obtain ⟨i, h1, h2⟩ := ih (by omega)
      exact ⟨i, by omega, h2⟩
theorem sumN_le {n i : Nat} {f : Nat → Nat} (hi : i < n) : f i ≤ sumN n f := by
  induction n with
  | zero => omega
  | succ n ih =>
    rw [sumN_s]
    by_cases e : i = n
    · subst e; omega
    · have := ih (by omega); omega
theorem sumN_map {α : Type} {l : List α} {f : α → Nat} {g : Nat → Nat} (h : ∀ i (hi : i < l.length), g i = f l[i]) : (l.map f).sum = sumN l.length g := by
  unfold sumN
  congr 1
  apply List.ext_getElem
  · simp
  · intro i h1 h2
    simp only [List.length_map] at h1
    simp only [List.getElem_map, List.getElem_range]
    exact (h i h1).symm
def cntE (l : List Ent) (k : Nat) : Nat := l.countP fun e => e.ino == (k : Int)
def cntV (n : Nat) (V : Nat → View) (k : Nat) : Nat := sumN n fun i => cntE (V i).kids k
inductive Rt (n : Nat) (V : Nat → View) : Nat → Prop
  | root : Rt n V 0
  | up {j m : Nat} : (V j).up = (m : Int) → m < n → (V m).kind = 2 → Rt n V m → Rt n V j
structure AloneV (x : View) : Prop where
  free : x.kind = 0 → x.mode = 0 ∧ x.links = 0 ∧ x.data = emS ∧ x.kids = [] ∧ x.up = 0
  mode : x.kind ≠ 0 → 0 ≤ x.mode ∧ x.mode ≤ 7
  file : x.kind = 1 → x.kids = [] ∧ x.up = 0
  link : x.kind = 3 → 0 ∉ bl x.data ∧ x.kids = [] ∧ x.up = 0 ∧ x.data ≠ emS ∧ x.data.size ≤ 1024
  dir : x.kind = 2 → x.data = emS
  kind : x.kind = 0 ∨ x.kind = 1 ∨ x.kind = 2 ∨ x.kind = 3
structure KidsV (n : Nat) (V : Nat → View) (j : Nat) (l : List Ent) : Prop where
  sorted : Sorted l
  name : ∀ e ∈ l, NameOk e.name
  live : ∀ e ∈ l, ∃ m : Nat, m < n ∧ e.ino = m ∧ (V m).kind ≠ 0 ∧ ((V m).kind = 2 → m ≠ 0 ∧ (V m).up = j)
structure FitV (n : Nat) (mx mb : Int) (V : Nat → View) : Prop where
  n1 : 1 ≤ n
  nmx : (n : Int) ≤ mx
  mx : mx ≤ 256
  mb0 : 0 ≤ mb
  mb1 : mb ≤ 65536
  root : (V 0).kind = 2 ∧ (V 0).up = 0
  one : ∀ j, j < n → AloneV (V j) ∧ (V j).data.size ≤ 65536
  dirs : ∀ j, j < n → (V j).kind = 2 → (∃ m : Nat, m < n ∧ (V j).up = m) ∧ (V j).kids.length ≤ 1024 ∧ KidsV n V j (V j).kids
  links : ∀ j, j < n → (V j).links = cntV n V j
  named : ∀ j, j < n → (V j).kind ≠ 0 → 0 < j → 0 < cntV n V j
  once : ∀ j, j < n → (V j).kind = 2 → 0 < j → cntV n V j = 1
  rooted : ∀ j, j < n → (V j).kind = 2 → Rt n V j
  bytes : (sumN n (fun j => (V j).data.size) : Int) ≤ mb
def Tr.V (t : Tr) (j : Nat) : View := (t.at (j : Int)).v
theorem cnt_V {t : Tr} {k : Nat} : t.cnt (k : Int) = cntV t.nodes.length t.V k := by
  unfold Tr.cnt cntV
  rw [List.countP_flatMap]
  refine sumN_map ?_
  intro i hi
  unfold Tr.V
  rw [at_nat hi]
  rfl
theorem sum_V {t : Tr} : t.sum = sumN t.nodes.length fun j => (t.V j).data.size := by
  unfold Tr.sum
  refine sumN_map ?_
  intro i hi
  unfold Tr.V
  rw [at_nat hi]
  rfl
theorem has_ex {t : Tr} {k : Int} (h : t.has k) : ∃ j : Nat, k = j ∧ j < t.nodes.length := ⟨k.toNat, by have := h.1; omega, by have := h.1; have := h.2; unfold Tr.n at this; omega⟩
theorem rootN_mono {t : Tr} : ∀ {m m' : Nat} {k : Int}, m ≤ m' → rootN t m k = true → rootN t m' k = true
  | 0, _, _, _, h => by simp [rootN] at h
  | m + 1, 0, _, h, _ => by omega
  | m + 1, m' + 1, k, hm, h => by
    unfold rootN at h ⊢
    split
    · rfl
    · rename_i h0
      rw [if_neg h0] at h
      split at h
      · rename_i h1
        rw [if_pos h1]
        exact rootN_mono (by omega) h
      · cases h
inductive Pth (n : Nat) (V : Nat → View) : Nat → List Nat → Prop
  | root : Pth n V 0 [0]
  | up {j m : Nat} {p : List Nat} : (V j).up = (m : Int) → m < n → (V m).kind = 2 → Pth n V m p → Pth n V j (j :: p)
theorem Pth.head {n : Nat} {V : Nat → View} {j : Nat} {p : List Nat} (h : Pth n V j p) : ∃ q, p = j :: q := by
  cases h with
  | root => exact ⟨[], rfl⟩
  | up _ _ _ _ => exact ⟨_, rfl⟩
theorem Pth.suf {n : Nat} {V : Nat → View} {j k : Nat} {p : List Nat} (h : Pth n V j p) (hk : k ∈ p) : ∃ q, Pth n V k q ∧ q <:+ p := by
  induction h with
  | root =>
    have : k = 0 := by simpa using hk
    subst this
    exact ⟨[0], .root, List.suffix_refl _⟩
  | up a b c d ih =>
    rcases List.mem_cons.1 hk with rfl | hk
    · exact ⟨_, .up a b c d, List.suffix_refl _⟩
    · obtain ⟨q, h1, h2⟩ := ih hk
      exact ⟨q, h1, h2.trans (List.suffix_cons _ _)⟩
theorem Rt.pth {n : Nat} {V : Nat → View} {j : Nat} (hj : j < n) (h : Rt n V j) : ∃ p, Pth n V j p ∧ p.Nodup ∧ ∀ x ∈ p, x < n := by
  induction h with
  | root => exact ⟨[0], .root, by simp, by simpa using hj⟩
  | @up j m a b c d ih =>
    obtain ⟨p, h1, h2, h3⟩ := ih b
    by_cases hm : j ∈ p
    · obtain ⟨q, g1, g2⟩ := h1.suf hm
      exact ⟨q, g1, List.Nodup.sublist g2.sublist h2, fun x hx => h3 x (g2.subset hx)⟩
    · exact ⟨j :: p, .up a b c h1, List.nodup_cons.2 ⟨hm, h2⟩, fun x hx => by
        rcases List.mem_cons.1 hx with rfl | hx
        · exact hj
        · exact h3 x hx⟩
theorem nodup_le : ∀ {n : Nat} {p : List Nat}, p.Nodup → (∀ x ∈ p, x < n) → p.length ≤ n
  | 0, p, _, h => by
    cases p with
    | nil => simp
    | cons x p => exact absurd (h x (by simp)) (by omega)
  | n + 1, p, hn, h => by
    have h1 := nodup_le (n := n) (p := p.erase n) (hn.erase n) (fun x hx => by
      have := (hn.mem_erase_iff).1 hx
      have := h x this.2
      omega)
    have h2 : p.length ≤ (p.erase n).length + 1 := by
      rw [List.length_erase]
      split <;> omega
    omega
theorem Pth.rootN {t : Tr} {j : Nat} {p : List Nat} (h : Pth t.nodes.length t.V j p) : rootN t p.length (j : Int) = true := by
  induction h with
  | root => rfl
  | @up j m p a b c d ih =>
    show Mm.rootN t (p.length + 1) (j : Int) = true
    unfold Mm.rootN
    split
    · rfl
    · have hup : (t.at (j : Int)).up = (m : Int) := a
      rw [hup, if_pos ⟨has_nat b, c⟩]
      exact ih
theorem rt_of {t : Tr} : ∀ {m : Nat} {j : Nat}, Mm.rootN t m (j : Int) = true → Rt t.nodes.length t.V j
  | 0, _, h => by simp [Mm.rootN] at h
  | m + 1, j, h => by
    unfold Mm.rootN at h
    split at h
    · rename_i h0
      have : j = 0 := by omega
      subst this
      exact .root
    · split at h
      · rename_i h1
        obtain ⟨u, hu, hl⟩ := has_ex h1.1
        rw [hu] at h h1
        exact .up (show (t.at (j : Int)).up = _ from hu) hl h1.2 (rt_of h)
      · cases h
theorem fitV_of {t : Tr} (h : Fit t) : FitV t.nodes.length t.mx t.mb t.V := by
  refine ⟨h.n1, h.nmx, h.mx, h.mb0, h.mb1, h.root, ?_, ?_, ?_, ?_, ?_, ?_, ?_⟩
  · intro j hj
    obtain ⟨a, b⟩ := h.one _ (has_nat hj)
    exact ⟨⟨a.free, a.mode, a.file, a.link, a.dir, a.kind⟩, b⟩
  · intro j hj hk
    obtain ⟨a, b, c⟩ := h.dirs _ ⟨has_nat hj, hk⟩
    obtain ⟨u, hu, hl⟩ := has_ex a
    refine ⟨⟨u, hl, hu⟩, b, ⟨c.sorted, c.name, ?_⟩⟩
    intro e he
    have hlv := c.live e he
    obtain ⟨m, hm, hml⟩ := has_ex hlv.1
    have hd := c.dir e he
    rw [hm] at hlv hd
    exact ⟨m, hml, hm, hlv.2, fun hk2 => by
      obtain ⟨q1, q2⟩ := hd hk2
      exact ⟨by omega, q2⟩⟩
  · intro j hj
    rw [← cnt_V]
    exact h.links _ (has_nat hj)
  · intro j hj hk h0
    rw [← cnt_V]
    exact h.named _ ⟨has_nat hj, hk⟩ (by omega)
  · intro j hj hk h0
    rw [← cnt_V]
    exact h.once _ ⟨has_nat hj, hk⟩ (by omega)
  · intro j hj hk
    exact rt_of (h.rooted _ ⟨has_nat hj, hk⟩)
  · rw [← sum_V]; exact h.bytes
theorem fit_ofV {t : Tr} (h : FitV t.nodes.length t.mx t.mb t.V) : Fit t := by
  refine ⟨h.n1, h.nmx, h.mx, h.mb0, h.mb1, h.root, ?_, ?_, ?_, ?_, ?_, ?_, ?_⟩
  · intro k hk
    obtain ⟨j, rfl, hj⟩ := has_ex hk
    obtain ⟨a, b⟩ := h.one j hj
    exact ⟨⟨a.free, a.mode, a.file, a.link, a.dir, a.kind⟩, b⟩
  · intro k hk
    obtain ⟨j, rfl, hj⟩ := has_ex hk.1
    obtain ⟨⟨u, hul, hu⟩, b, c⟩ := h.dirs j hj hk.2
    refine ⟨?_, b, ⟨c.sorted, c.name, ?_, ?_⟩⟩
    · have : (t.at (j : Int)).up = (u : Int) := hu
      rw [this]; exact has_nat hul
    · intro e he
      obtain ⟨m, h1, h2, h3, _⟩ := c.live e he
      rw [h2]
      exact ⟨has_nat h1, h3⟩
    · intro e he h2
      obtain ⟨m, h1, h2', h3, h4⟩ := c.live e he
      rw [h2'] at h2 ⊢
      obtain ⟨q1, q2⟩ := h4 h2
      exact ⟨by omega, q2⟩
  · intro k hk
    obtain ⟨j, rfl, hj⟩ := has_ex hk
    rw [cnt_V]
    exact h.links j hj
  · intro k hk h0
    obtain ⟨j, rfl, hj⟩ := has_ex hk.1
    rw [cnt_V]
    exact h.named j hj hk.2 (by omega)
  · intro k hk h0
    obtain ⟨j, rfl, hj⟩ := has_ex hk.1
    rw [cnt_V]
    exact h.once j hj hk.2 (by omega)
  · intro k hk
    obtain ⟨j, rfl, hj⟩ := has_ex hk.1
    obtain ⟨p, h1, h2, h3⟩ := (h.rooted j hj hk.2).pth hj
    exact rootN_mono (by have := nodup_le h2 h3; omega) h1.rootN
  · rw [sum_V]; exact h.bytes
end
end Go.Mm
end
section
namespace Go.Mm
open Go.Proofs
variable [Globs]
set_option maxRecDepth 8000
open Go.Proofs.Tryz renaming prog → TP
section
def soF (n : Nat) : D := .fn 124 [.ptr (n + 1) 0 0, .ptr n 0 0]
theorem fin71 {st : Store} {e : Int} {b : Bool} : finish false st [] (.fn 124 [.ptr 1 0 0, .ptr 0 0 0]) [.cells 0 true 83 [.int .i64 e], .cells 0 true 4 [.bool b]] = some (.fn 124 [.ptr st.length 0 0, .ptr (st.length + 1) 0 0], st ++ [.cells 0 true 4 [.bool b], .cells 0 true 83 [.int .i64 e]]) := by
  unfold finish
  have hk0 : kids [Blk.cells 0 true 83 [.int .i64 e], .cells 0 true 4 [.bool b]] 0 = [] := rfl
  have hk1 : kids [Blk.cells 0 true 83 [.int .i64 e], .cells 0 true 4 [.bool b]] 1 = [] := rfl
  have hr : ∀ k, reach [Blk.cells 0 true 83 [.int .i64 e], .cells 0 true 4 [.bool b]] k [1, 0] = [1, 0] := by
    intro k
    induction k with
    | zero => rfl
    | succ k ih =>
      unfold reach
      have : ([1, 0] : List Nat).flatMap (kids [Blk.cells 0 true 83 [.int .i64 e], .cells 0 true 4 [.bool b]]) = [] := by simp [hk0, hk1]
      rw [this]
      exact ih
  have e1 : (reach [Blk.cells 0 true 83 [.int .i64 e], .cells 0 true 4 [.bool b]] 6 (addNew (List.range ([] : List Nat).length) (refs (.fn 124 [.ptr 1 0 0, .ptr 0 0 0])))).drop ([] : List Nat).length = [1, 0] := by
    have : addNew (List.range ([] : List Nat).length) (refs (.fn 124 [.ptr 1 0 0, .ptr 0 0 0])) = [1, 0] := by simp [refs, refsL, addNew, List.range_succ]
    rw [this, hr]; rfl
  simp only [e1]
  generalize hb : (fun i => if i < ([] : List Nat).length then ([] : List Nat)[i]? else (idxOf [1, 0] i).map (st.length + ·)) = back
  have hb1 : back 1 = some st.length := by rw [← hb]; rfl
  have hb0 : back 0 = some (st.length + 1) := by rw [← hb]; rfl
  simp [ren, renL, hb1, hb0, take, renB, List.range_succ, alive]
  rfl
theorem fp71s {st : Store} {e : Int} {b : Bool} : fpC C st (some (.fn 71 [])) (some [.int .i64 e, .bool b]) = .touch [] st.length := fp71 (by simp only [refsL, refs, List.append_nil])
theorem d71 {st : Store} {e : Int} {b : Bool} : Does1 C TP 71 [.int .i64 e, .bool b] st (.fn 124 [.ptr st.length 0 0, .ptr (st.length + 1) 0 0]) (st ++ [.cells 0 true 4 [.bool b], .cells 0 true 83 [.int .i64 e]]) := by
  refine does_of (call_kp rfl rfl (by simp only [refsL, refs, List.append_nil]) (body_h b71 (by show 2 ≤ 6; decide) ?_))
  simp -dsimp only [↓R0, RA, simprocAttr]
  rw [show finish (C.ro 71) st [] _ _ = _ from fin71]
  exact ⟨rfl, rfl⟩
theorem d124 {st : Store} {x y vx vy : Nat} {rx ry : Bool} {e : Int} {b : Bool} (hx : st[x]? = some (.cells vx rx 4 [.bool b])) (hy : st[y]? = some (.cells vy ry 83 [.int .i64 e])) : Does1 C TP 124 [.ptr x vx 0, .ptr y vy 0] st (.int .i64 (if b then e else 0)) st := by
  refine does_of (call_th rfl rfl (body_h b124 (by show 2 ≤ 5; decide) ?_))
  simp -dsimp only [↓R0, RA, simprocAttr, hx, hy]
  refine hIf_b (fun h1 => ?_) (fun h1 => ?_)
  · simp -dsimp only [↓R0, RA, simprocAttr, h1, hx, hy]
  · simp -dsimp only [↓R0, RA, simprocAttr, h1, hx, hy]
def firstE : List Int → Int
  | [] => 0
  | e :: l => if e = 0 then firstE l else e
def Tells (st : Store) (d : D) (e : Int) : Prop := ∃ f caps, d = .fn f caps ∧ ∀ g, ∃ g', Does1 C TP f caps (st ++ g) (.int .i64 e) (st ++ g ++ g')
theorem Tells.so {st : Store} {x y vx vy : Nat} {rx ry : Bool} {e : Int} {b : Bool} (hx : st[x]? = some (.cells vx rx 4 [.bool b])) (hy : st[y]? = some (.cells vy ry 83 [.int .i64 e])) : Tells st (.fn 124 [.ptr x vx 0, .ptr y vy 0]) (if b then e else 0) :=
  ⟨124, _, rfl, fun g => ⟨[], by rw [List.append_nil]; exact d124 (get_app hx) (get_app hy)⟩⟩
theorem d70 {st : Store} {id ver : Nat} {rw : Bool} {es : List Int} {fs : List D} (hb : st[id]? = some (.cells ver rw 108 fs)) (hl : fs.length = es.length) (hs : fs.length ≤ 1000) (h : ∀ i (h : i < fs.length), Tells st fs[i] (es[i]'(by omega))) :
    ∃ g, Does1 C TP 70 [.osl id ver 1 0 fs.length] st (.int .i64 (firstE es)) (st ++ g) := by
  have main : CallW C TP 70 [.osl id ver 1 0 fs.length] st fun d st' => ∃ g : Store, d = .int .i64 (firstE es) ∧ st' = st ++ g := by
    refine call_th rfl rfl (body_h b70 (by show 1 ≤ 18; decide) ?_)
    simp -dsimp only [↓R0, RA, simprocAttr]
    refine hLoop_i (fun i : Nat => fs.length - i) (fun i fr' st' => fr' 6 = .osl id ver 1 0 fs.length ∧ fr' 7 = .int .i64 fs.length ∧ fr' 8 = .int .i64 i ∧ i ≤ fs.length ∧ firstE es = firstE (es.drop i) ∧ ∃ g, st' = st ++ g) 0 ⟨rfl, rfl, rfl, by omega, rfl, [], by simp⟩ ?_
    rintro i fr st1 ⟨h6, h7, h8, hi, hf, g, rfl⟩
    simp -dsimp only [↓R0, RA, simprocAttr, h7, h8]
    apply hIf_d <;> intro hc
    · have hil : i < fs.length := by omega
      have b1 : (0 : Int) ≤ i := by omega
      have b2 : (i : Int) < (fs.length : Nat) := by omega
      obtain ⟨f, caps, e1, e2⟩ := h i hil
      obtain ⟨g', e2⟩ := e2 g
      have hget : fs[i * 1]? = some (.fn f caps) := by rw [Nat.mul_one, List.getElem?_eq_getElem hil, e1]
      have hdrop : es.drop i = es[i]'(by omega) :: es.drop (i + 1) := List.drop_eq_getElem_cons (by omega)
      simp -dsimp only [↓R0, RA, simprocAttr, hc, h6, h8, osl_ix b1 b2, Int.toNat_natCast, get_app hb, hget, hCall_d e2]
      apply hIf_d <;> intro h0
      · simp -dsimp (disch := ((try simp only [sz_sl, ByteArray.size_append]); omega)) only [↓R0, RA, simprocAttr, h0, h8, w64]
        refine ⟨i + 1, by omega, (by first | trivial | (simp -dsimp only [R1, simprocAttr, h6]; done) | rfl), (by first | trivial | (simp -dsimp only [R1, simprocAttr, h7]; done) | rfl), (by first | trivial | (simp -dsimp only [R1, simprocAttr]; done) | rfl), by omega, ?_, g ++ g', by simp⟩
        rw [hf, hdrop, firstE, if_pos h0]
      · simp -dsimp only [↓R0, RA, simprocAttr, h0]
        refine ⟨g ++ g', ?_, by simp⟩
        rw [hf, hdrop, firstE, if_neg h0]
    · simp -dsimp only [↓R0, RA, simprocAttr, hc]
      have : i = es.length := by omega
      subst this
      rw [List.drop_length] at hf
      refine ⟨g, by rw [hf]; rfl, by first | trivial | rfl⟩
  obtain ⟨d, st', hd, g, rfl, rfl⟩ := main.does
  exact ⟨g, hd⟩
theorem d70c {st : Store} {id ver n : Nat} {rw : Bool} {es : List Int} {fs : List D} (hb : st[id]? = some (.cells ver rw 108 fs)) (hn : n = fs.length) (hl : fs.length = es.length) (hs : fs.length ≤ 1000) (h : ∀ i (h : i < fs.length), Tells st fs[i] (es[i]'(by omega))) :
    CallW C TP 70 [.osl id ver 1 0 n] st fun d st' => ∃ g, d = .int .i64 (firstE es) ∧ st' = st ++ g := by
  subst hn
  obtain ⟨g, hg⟩ := d70 hb hl hs h
  exact hg.call ⟨g, rfl, rfl⟩
structure Nam where
  d : Int
  nm : ByteArray
  k : Int
abbrev Nam.c (x : Nam) : List D := [.int .i64 x.d, .str x.nm, .int .i64 x.k]
def Tr.named (t : Tr) (cwd : Int) (p : ByteArray) : Nam × Int :=
  let q := t.parent cwd p
  if q.2.2 ≠ 0 then (⟨0, emS, 0⟩, q.2.2) else
  let k := t.kid q.1 q.2.1
  (⟨q.1, q.2.1, k⟩, firstE [if decide (q.2.1 = ⟨#[46]⟩ ∨ q.2.1 = ⟨#[46, 46]⟩) then 22 else 0, if decide (k < 0) then 2 else 0, if !decide (t.may q.1 3) then 13 else 0])
theorem s69 {t : Tr} {cwd : Int} {p : ByteArray} (hT : T t) (hp : p.size ≤ 9223372036854775807) : Gives C TP 69 [t.d, .int .i64 cwd, .str p] (.tup [.agg (t.named cwd p).1.c, .int .i64 (t.named cwd p).2]) := by
  refine gives_frz rfl rfl (ref3 hT.ok) (body_h b69 (by show 3 ≤ 50; decide) ?_)
  have hfr : t.named cwd p = _ := Tr.named.eq_def t cwd p
  have g99 := s99 (cwd := cwd) hT hp
  have hpd := hT.parent_dir (cwd := cwd) (p := p)
  generalize t.parent cwd p = q at *
  obtain ⟨d, nm, e⟩ := q
  simp only [] at hfr g99 hpd
  simp -dsimp only [↓R0, RA, simprocAttr, hCall_g g99]
  apply hIf_d <;> intro h1
  · rw [if_neg (by simp [h1])] at hfr
    have hd := hpd h1
    simp -dsimp only [↓R0, RA, simprocAttr, hCall_g (s104 hT)]
    refine regX_h x69_5 c69_5 ?_
    simp -dsimp only [↓R0, RA, simprocAttr, RQ, ↓R5, R6]
    apply hIf_d <;> intro h2
    · simp -dsimp only [↓R0, RA, simprocAttr, RQ, ↓R5, R6, decide_eq_true h2, hCall_d d71, hCall_g (s79 (w := 3) hT.ok hT.modes (by decide)), un]
      refine hCall_c (d70c (es := [if true then 22 else 0, if decide (t.kid d nm < 0) then 2 else 0, if !decide (t.may d 3) then 13 else 0]) rfl rfl rfl (by simp) ?_) ?_
      · intro i hi
        match i, hi with
        | 0, _ => exact Tells.so (b := true) (e := 22) rfl rfl
        | 1, _ => exact Tells.so rfl rfl
        | 2, _ => exact Tells.so rfl rfl
      · rintro _ _ ⟨g, rfl, rfl⟩
        simp -dsimp only [↓R0, RA, simprocAttr, RQ, ↓R5, R6, fp71s]
        refine ⟨by first | (simp only [fp71s]; simp [fpOk]; done) | simp [fpOk], ?_⟩
        simp -dsimp only [↓R0, RA, simprocAttr, RQ, ld104]
        rw [hfr]
        rw [fz_0 (by simp only [refs, refsL, List.append_nil])]
        simp [h2]
    · simp -dsimp only [↓R0, RA, simprocAttr, RQ, ↓R5, R6, decide_eq_false h2]
      by_cases h3 : nm = ⟨#[46, 46]⟩
      · simp -dsimp only [↓R0, RA, simprocAttr, RQ, ↓R5, R6, decide_eq_false h2, decide_eq_true h3, hCall_d d71, hCall_g (s79 (w := 3) hT.ok hT.modes (by decide)), un]
        refine hCall_c (d70c (es := [if true then 22 else 0, if decide (t.kid d nm < 0) then 2 else 0, if !decide (t.may d 3) then 13 else 0]) rfl rfl rfl (by simp) ?_) ?_
        · intro i hi
          match i, hi with
          | 0, _ => exact Tells.so (b := true) (e := 22) rfl rfl
          | 1, _ => exact Tells.so rfl rfl
          | 2, _ => exact Tells.so rfl rfl
        · rintro _ _ ⟨g, rfl, rfl⟩
          simp -dsimp only [↓R0, RA, simprocAttr, RQ, ↓R5, R6, fp71s]
          refine ⟨by first | (simp only [fp71s]; simp [fpOk]; done) | simp [fpOk], ?_⟩
          simp -dsimp only [↓R0, RA, simprocAttr, RQ, ld104]
          rw [hfr]
          rw [fz_0 (by simp only [refs, refsL, List.append_nil])]
          simp [h3]
      · simp -dsimp only [↓R0, RA, simprocAttr, RQ, ↓R5, R6, decide_eq_false h2, decide_eq_false h3, hCall_d d71, hCall_g (s79 (w := 3) hT.ok hT.modes (by decide)), un]
        refine hCall_c (d70c (es := [if false then 22 else 0, if decide (t.kid d nm < 0) then 2 else 0, if !decide (t.may d 3) then 13 else 0]) rfl rfl rfl (by simp) ?_) ?_
        · intro i hi
          match i, hi with
          | 0, _ => exact Tells.so (b := false) (e := 22) rfl rfl
          | 1, _ => exact Tells.so rfl rfl
          | 2, _ => exact Tells.so rfl rfl
        · rintro _ _ ⟨g, rfl, rfl⟩
          simp -dsimp only [↓R0, RA, simprocAttr, RQ, ↓R5, R6, fp71s]
          refine ⟨by first | (simp only [fp71s]; simp [fpOk]; done) | simp [fpOk], ?_⟩
          simp -dsimp only [↓R0, RA, simprocAttr, RQ, ld104]
          rw [hfr]
          rw [fz_0 (by simp only [refs, refsL, List.append_nil])]
          simp [h2, h3]
  · rw [if_pos h1] at hfr
    simp -dsimp only [↓R0, RA, simprocAttr, ld104]
    rw [hfr, fz_0 (by simp only [refs, refsL, List.append_nil])]
end
section
def remE (l : List Ent) (nm : ByteArray) : List Ent := l.filter fun e => decide (e.name ≠ nm)
theorem dropN_rows {nm : ByteArray} : ∀ {l : List Ent}, dropN nm (rowsE l) = some (rowsE (remE l nm))
  | [] => rfl
  | e :: l => by
    rw [rowsE_cons]
    simp only [dropN, dropN_rows, toL_inj, decide_eq_true_eq, remE, List.filter_cons]
    by_cases h : e.name = nm
    · simp [h]
    · simp [h, rowsE_cons]
theorem zer2_refs : ∀ {n : Nat}, refsL (zer2 n) = []
  | 0 => rfl
  | n + 1 => by simp only [zer2, refsL, refs, zer2_refs, List.append_nil]
theorem d145n {st : Store} {xb xv : Nat} : Does1 C TP 145 [.nils, .fn 146 [.ptr xb xv 0]] st .nils st := call_ex (g := x145) rfl rfl
theorem d145 {st : Store} {id ver xb xv : Nat} {rw : Bool} {ty : TypeId} {l : List Ent} {nm : ByteArray} {a b : Int} (h : st[xb]? = some (.cells xv rw ty [.int .i64 a, .str nm, .int .i64 b])) (hl : l.length < 1000000) (hb : st[id]? = some (.cells ver true 71 (rowsE l))) (hn : id ≠ xb) :
    ∃ tl, refsL tl = [] ∧ Does1 C TP 145 [.osl id ver 2 0 l.length, .fn 146 [.ptr xb xv 0]] st (.osl id ver 2 0 (remE l nm).length) (st.set id (.cells ver true 71 (rowsE (remE l nm) ++ tl))) := by
  refine ⟨zer2 (l.length - (remE l nm).length), zer2_refs, call_ex (g := x145) rfl ?_⟩
  have e1 : (rowsE l).length = l.length * 2 := rowsE_length
  have e2 : (rowsE (remE l nm)).length / 2 = (remE l nm).length := by rw [rowsE_length]; omega
  simp only [x145, hn, if_false, hb, h, e1, hl, and_self, if_true, dropN_rows, e2]
theorem d105 {st : Store} {id ver dd : Nat} {ns : List Ino} {mx mb k : Int} {nm : ByteArray} {l : List Ent} (hb : st[id]? = some (.cells ver true 38 (rowsI ns))) (hd : dd < ns.length) (hE : EntS st ns[dd].kd l) (hl : l.length < 1025) :
    CallW C TP 105 [.agg [.osl id ver 6 0 ns.length, .int .i64 mx, .int .i64 mb], .agg [.int .i64 dd, .str nm, .int .i64 k]] st fun _ st' => ∃ kd, st'[id]? = some (.cells ver true 38 (rowsI (setK ns dd kd))) ∧
      EntS st' kd (remE l nm) ∧ (∀ j, idD kd = some j → st.length ≤ j) ∧ (∀ j, j < st.length → j ≠ id → st'[j]? = st[j]?) ∧ st.length ≤ st'.length := by
  refine call_th rfl rfl (body_h b105 (by show 2 ≤ 20; decide) ?_)
  have r4 : (rowsI ns)[dd * 6 + 4]? = some ns[dd].kd := rowsI_get (List.getElem?_eq_getElem hd) 4 (by omega)
  have hid := get_lt hb
  have a1 : (0 : Int) ≤ dd := by omega
  have a2 : (dd : Int) < (ns.length : Nat) := by omega
  have s4 : ∀ v, (rowsI ns).set (dd * 6 + 4) v = rowsI (setK ns dd v) := fun v => rowsI_set ns dd 4 v _ hd (by omega) rfl
  have l4 : (dd * 6 + 4 + 1 ≤ (rowsI ns).length) = True := by rw [rowsI_length]; simp; omega
  simp -dsimp only [↓R0, RA, simprocAttr, RQ]
  refine regX_h x105_1 c105_1 ?_
  simp -dsimp only [↓R0, RA, simprocAttr, RQ, ↓R5, R6, osl_ix a1 a2, Int.toNat_natCast, get_app hb, r4]
  refine hCall_c (d106 hE.grow (by omega)) ?_
  rintro r st2 (⟨rfl, rfl, rfl⟩ | ⟨ver2, rfl, rfl⟩)
  · simp -dsimp only [↓R0, RA, simprocAttr, RQ, ↓R5, R6, hCall_d d145n, osl_ix a1 a2, Int.toNat_natCast, get_app hb, s4, l4]
    refine ⟨by simp only [fp106, fp145n]; simp [fpOk], .nils, ?_, .inl (.inl ⟨rfl, rfl, rfl⟩), by simp [idD], ?_, by simp⟩
    · exact get_set_eq (get_app hb)
    · intro j hj hji
      rw [get_set_ne hji, List.getElem?_append_left hj]
  · obtain ⟨tl, htl, h145⟩ := d145 (st := st ++ [.cells 0 true 24 [.osl id ver 6 0 ns.length, .int .i64 mx, .int .i64 mb], .cells 0 true 104 [.int .i64 dd, .str nm, .int .i64 k], .cells ver2 true 71 (rowsE l)])
      (xb := st.length + 1) (id := st.length + 2) (nm := nm) (l := l) (by rw [app_get]; rfl) (by omega) (by rw [app_get]; rfl) (by omega)
    simp -dsimp only [↓R0, RA, simprocAttr, RQ, ↓R5, R6, hCall_d h145, osl_ix a1 a2, Int.toNat_natCast]
    simp -dsimp only [↓R0, RA, simprocAttr, RQ, ↓R5, R6, osl_ix a1 a2, Int.toNat_natCast, get_app hb, s4, l4]
    refine ⟨?_, .osl (st.length + 2) ver2 2 0 (remE l nm).length, ?_, .inr ⟨st.length + 2, ver2, true, tl, rfl, ?_, htl⟩, ?_, ?_, by simp⟩
    · simp only [fp106, fp145]
      try simp [fpOk]
      try omega
    · exact get_set_eq (get_app hb)
    · rw [get_set_ne (by omega), app_get]; rfl
    · intro j hj
      simp [idD] at hj
      omega
    · intro j hj hji
      rw [get_set_ne hji, List.getElem?_append_left hj]
def goneN (ns : List Ino) (d : Nat) (kd : D) (k : Nat) : List Ino :=
  if lnk ns k - 1 = 0 then (setL (setK ns d kd) k (lnk ns k - 1)).set k .free else setL (setK ns d kd) k (lnk ns k - 1)
theorem goneN_len {ns : List Ino} {d k : Nat} {kd : D} : (goneN ns d kd k).length = ns.length := by
  unfold goneN
  split <;> simp [setL, setK]
theorem d74 {st : Store} {id ver dd k : Nat} {ns : List Ino} {mx mb : Int} {nm : ByteArray} {l : List Ent} (hb : st[id]? = some (.cells ver true 38 (rowsI ns))) (hd : dd < ns.length) (hk : k < ns.length) (hE : EntS st ns[dd].kd l) (hl : l.length < 1025)
    (hlk : 0 ≤ ns[k].links ∧ ns[k].links ≤ 1000000) :
    CallW C TP 74 [.agg [.osl id ver 6 0 ns.length, .int .i64 mx, .int .i64 mb], .agg [.int .i64 dd, .str nm, .int .i64 k]] st fun _ st' => ∃ kd, st'[id]? = some (.cells ver true 38 (rowsI (goneN ns dd kd k))) ∧
      EntS st' kd (remE l nm) ∧ (∀ j, idD kd = some j → st.length ≤ j) ∧ (∀ j, j < st.length → j ≠ id → st'[j]? = st[j]?) ∧ st.length ≤ st'.length := by
  refine call_th rfl rfl (body_h b74 (by show 2 ≤ 31; decide) ?_)
  have hid := get_lt hb
  have a1 : (0 : Int) ≤ k := by omega
  have a2 : (k : Int) < (ns.length : Nat) := by omega
  simp -dsimp only [↓R0, RA, simprocAttr, RQ, ld24, ld104]
  refine hCall_c (d105 (id := id) (ver := ver) (dd := dd) (ns := ns) (l := l) (get_app hb) hd hE.grow hl) ?_
  rintro _ st1 ⟨kd, q1, q2, q3, q4, q5⟩
  simp only [List.length_append, List.length_cons, List.length_nil, Nat.zero_add, Nat.reduceAdd] at q3 q4 q5
  have p0 : st1[st.length]? = some (.cells 0 true 24 [.osl id ver 6 0 ns.length, .int .i64 mx, .int .i64 mb]) := by rw [q4 _ (by omega) (by omega), app_get0]; rfl
  have p1 : st1[st.length + 1]? = some (.cells 0 true 104 [.int .i64 dd, .str nm, .int .i64 k]) := by rw [q4 _ (by omega) (by omega), app_get]; rfl
  have r2 : ∀ v, (rowsI (setK ns dd v))[k * 6 + 2]? = some (.int .i64 (lnk ns k)) := fun v => by
    have hk' : k < (setK ns dd v).length := by rw [setK_len]; exact hk
    rw [rowsI_get (List.getElem?_eq_getElem hk') 2 (by omega), ← lnk_setK (d := dd) (v := v)]
    unfold lnk
    rw [getD_at hk']; rfl
  have hlk' : lnk ns k = ns[k].links := by unfold lnk; rw [getD_at hk]
  have w2 : IntKind.i64.wrap (lnk ns k - 1) = lnk ns k - 1 := by rw [w64] <;> omega
  have s2 : ∀ v w, (rowsI (setK ns dd v)).set (k * 6 + 2) (.int .i64 w) = rowsI (setL (setK ns dd v) k w) := fun v w => rowsI_set _ k 2 _ _ (by rw [setK_len]; exact hk) (by omega) rfl
  have l2 : ∀ v, (k * 6 + 2 + 1 ≤ (rowsI (setK ns dd v)).length) = True := fun v => by rw [rowsI_length, setK_len]; simp; omega
  have e0 : ∀ b : Blk, (st1.set id b)[st.length]? = st1[st.length]? := fun b => get_set_ne (by omega)
  have e1 : ∀ b : Blk, (st1.set id b)[st.length + 1]? = st1[st.length + 1]? := fun b => get_set_ne (by omega)
  have e2 : ∀ b : Blk, (st1.set id b)[id]? = some b := fun b => get_set_eq q1
  have r3 : ∀ v w, (rowsI (setL (setK ns dd v) k w))[k * 6 + 2]? = some (.int .i64 w) := fun v w => by
    have hk' : k < (setK ns dd v).length := by rw [setK_len]; exact hk
    have hg : (setL (setK ns dd v) k w)[k]? = some (((setK ns dd v).getD k .free).wln w) := by unfold setL; rw [List.getElem?_set_self hk']
    rw [rowsI_get hg 2 (by omega)]; rfl
  have l6 : ∀ v w, (k * 6 + 6 ≤ (rowsI (setL (setK ns dd v) k w)).length) = True := fun v w => by rw [rowsI_length, setL_len, setK_len]; simp; omega
  simp -dsimp only [↓R0, RA, simprocAttr, p0, p1, osl_ix a1 a2, Int.toNat_natCast, q1, r2, s2, l2, w2, e0, e1, e2, r3]
  apply hIf_d <;> intro h0
  · simp -dsimp only [↓R0, RA, simprocAttr, h0, e0, p0, e1, p1, e2, osl_ix a1 a2, Int.toNat_natCast, l6]
    refine ⟨kd, ?_, ?_, ?_, ?_, ?_⟩
    · rw [get_set_eq (e2 _)]
      congr 2
      unfold goneN
      rw [if_pos h0, ← rowsI_wr _ _ _ (by rw [setL_len, setK_len]; exact hk), h0]
      rfl
    · refine q2.mono fun j hj => ?_
      have h3 := q3 j hj
      rw [get_set_ne (by omega), get_set_ne (by omega)]
    · intro j hj
      have h3 := q3 j hj
      omega
    · intro j hj hji
      rw [get_set_ne hji, get_set_ne hji, q4 _ (by omega) hji, List.getElem?_append_left hj]
    · rw [List.length_set, List.length_set]; omega
  · simp -dsimp only [↓R0, RA, simprocAttr, h0]
    refine ⟨kd, ?_, ?_, ?_, ?_, ?_⟩
    · unfold goneN
      rw [if_neg h0]
      exact e2 _
    · refine q2.mono fun j hj => ?_
      have h3 := q3 j hj
      rw [get_set_ne (by omega)]
    · intro j hj
      have h3 := q3 j hj
      omega
    · intro j hj hji
      rw [get_set_ne hji, q4 _ (by omega) hji, List.getElem?_append_left hj]
    · rw [List.length_set]; omega
end
section
structure Minus (t t' : Tr) (dd k : Nat) (nm : ByteArray) : Prop where
  like : Like t t'
  ex : ∀ j : Nat, j < t.nodes.length → (t'.at (j : Int)).v = if j = k then (if (t.at (k : Int)).links = 1 then Ino.free.v else { (t.at (j : Int)).v with links := (t.at (j : Int)).links - 1 }) else if j = dd then { (t.at (j : Int)).v with kids := remE (t.at (dd : Int)).kids nm } else (t.at (j : Int)).v
theorem nodes_frz {st : Store} {id ver : Nat} {ns : List Ino} {mx mb : Int} {n : Nat} (hblk : st[id]? = some (.cells ver true 38 (rowsI ns))) (hn : ns.length ≤ 256) {L : Nat → List Ent} (hE : ∀ j (h : j < ns.length), EntS st ns[j].kd (L j)) :
    ∃ t' : Tr, fz st (n + 4) (.agg [.osl id ver 6 0 ns.length, .int .i64 mx, .int .i64 mb]) = some t'.d ∧ t'.Ok ∧ t'.nodes.length = ns.length ∧ t'.mx = mx ∧ t'.mb = mb ∧
      ∀ (j : Nat) (h : j < ns.length), (t'.at (j : Int)).v = ⟨ns[j].kind, ns[j].mode, ns[j].links, ns[j].data, L j, ns[j].up⟩ := by
  obtain ⟨t', f1, f2, f3, f4, f5, f6⟩ := fz_tree (k := n) (mx := mx) (mb := mb) hblk (by
    intro y hy
    obtain ⟨j, hj, rfl⟩ := List.getElem_of_mem hy
    exact ⟨_, hE j hj⟩) hn
  refine ⟨t', f1, f2, f3, f4, f5, ?_⟩
  intro j hj
  obtain ⟨y, g1, g2⟩ := f6 j _ (List.getElem?_eq_getElem hj)
  have : t'.at (j : Int) = y := by
    have hj' : j < t'.nodes.length := by omega
    rw [at_nat hj']
    rw [List.getElem?_eq_getElem hj'] at g1
    exact Option.some.inj g1
  rw [this, g2.v (hE j hj)]
theorem setK_get {ns : List Ino} {d j : Nat} {kd : D} (hj : j < ns.length) : (setK ns d kd)[j]? = some (if j = d then ns[j].wkd kd else ns[j]) := by
  unfold setK
  rw [List.getElem?_set]
  by_cases e : d = j
  · subst e; rw [if_pos rfl, if_pos hj, if_pos rfl, getD_at hj]
  · rw [if_neg e, if_neg (show ¬ j = d from fun x => e x.symm), List.getElem?_eq_getElem hj]
theorem setL_get {ns : List Ino} {k j : Nat} {w : Int} (hj : j < ns.length) : (setL ns k w)[j]? = some (if j = k then ns[j].wln w else ns[j]) := by
  unfold setL
  rw [List.getElem?_set]
  by_cases e : k = j
  · subst e; rw [if_pos rfl, if_pos hj, if_pos rfl, getD_at hj]
  · rw [if_neg e, if_neg (show ¬ j = k from fun x => e x.symm), List.getElem?_eq_getElem hj]
theorem getO {ns : List Ino} {j : Nat} {x : Ino} (hj : j < ns.length) (h : ns[j]? = some x) : ns[j] = x := by
  rw [List.getElem?_eq_getElem hj] at h
  exact Option.some.inj h
theorem goneN_get {ns : List Ino} {d k j : Nat} {kd : D} (hd : d < ns.length) (hk : k < ns.length) (hj : j < ns.length) (hdk : k ≠ d) :
    (goneN ns d kd k)[j]'(by rw [goneN_len]; exact hj) = if j = k then (if lnk ns k - 1 = 0 then .free else ns[j].wln (lnk ns k - 1)) else if j = d then ns[j].wkd kd else ns[j] := by
  apply getO
  have e1 : ∀ w, (setL (setK ns d kd) k w)[j]? = some (if j = k then ns[j].wln w else if j = d then ns[j].wkd kd else ns[j]) := by
    intro w
    have hj' : j < (setK ns d kd).length := by rw [setK_len]; exact hj
    rw [setL_get hj', getO hj' (setK_get hj)]
    by_cases q : j = k
    · rw [if_pos q, if_pos q, if_neg (by omega)]
    · rw [if_neg q, if_neg q]
  unfold goneN
  split
  · rename_i h0
    rw [List.getElem?_set]
    by_cases q : k = j
    · rw [if_pos q, if_pos (by rw [setL_len, setK_len]; exact hk), if_pos q.symm]
    · rw [if_neg q, e1, if_neg (show ¬ j = k from fun x => q x.symm), if_neg (show ¬ j = k from fun x => q x.symm)]
  · rename_i h0
    rw [e1]
theorem gone_frz {t : Tr} (hT : T t) {st : Store} {id ver k dd : Nat} {nm : ByteArray} {kd : D} {n : Nat} (hd : t.dir (dd : Int)) (hkl : k < t.nodes.length) (hdk : k ≠ dd)
    (hblk : st[id]? = some (.cells ver true 38 (rowsI (goneN t.nodes dd kd k)))) (hents : EntS st kd (remE (t.at (dd : Int)).kids nm)) :
    ∃ t' : Tr, fz st (n + 4) (.agg [.osl id ver 6 0 t.nodes.length, .int .i64 t.mx, .int .i64 t.mb]) = some t'.d ∧ Minus t t' dd k nm := by
  have hlen := hT.n
  have hdl : dd < t.nodes.length := by have := hd.1.2; unfold Tr.n at this; omega
  have hlk : lnk t.nodes k = (t.at (k : Int)).links := by unfold lnk; rw [getD_at hkl, at_nat hkl]
  obtain ⟨t', f1, f2, f3, f4, f5, f6⟩ := nodes_frz (n := n) (mx := t.mx) (mb := t.mb) (L := fun j => if j = k then (if (t.at (k : Int)).links = 1 then [] else (t.at (k : Int)).kids) else if j = dd then remE (t.at (dd : Int)).kids nm else (t.at (j : Int)).kids) hblk (by rw [goneN_len]; omega) (by
    intro j hj0
    have hj : j < t.nodes.length := by rw [goneN_len] at hj0; exact hj0
    rw [goneN_get hdl hkl hj hdk, hlk]
    by_cases q1 : j = k
    · subst q1
      simp only [if_true]
      by_cases q2 : (t.at (j : Int)).links = 1
      · rw [if_pos (by omega), if_pos q2]; exact .inl (.inl ⟨rfl, rfl, rfl⟩)
      · rw [if_neg (by omega), if_neg q2, ← at_nat hj]; exact .inl (hT.kds (has_nat hj))
    · simp only [if_neg q1]
      by_cases q2 : j = dd
      · simp only [if_pos q2]; exact hents
      · simp only [if_neg q2]; rw [← at_nat hj]; exact .inl (hT.kds (has_nat hj)))
  rw [goneN_len] at f1 f3
  refine ⟨t', f1, ⟨f2, f3, f4, f5⟩, ?_⟩
  intro j hj
  rw [f6 j (by rw [goneN_len]; exact hj), goneN_get hdl hkl hj hdk, hlk]
  by_cases q1 : j = k
  · subst q1
    simp only [if_true]
    by_cases q2 : (t.at (j : Int)).links = 1
    · rw [if_pos (by omega), if_pos q2, if_pos q2]; rfl
    · rw [if_neg (by omega), if_neg q2, if_neg q2, ← at_nat hj]; rfl
  · simp only [if_neg q1]
    by_cases q2 : j = dd
    · subst q2; simp only [if_true]; rw [← at_nat hj]; rfl
    · simp only [if_neg q2]; rw [← at_nat hj]; rfl
theorem d73 {t : Tr} (hT : T t) {st : Store} : ∃ g, g.length = 2 ∧ Does1 C TP 73 [t.d] st (.agg (t.od (st.length + 2) 1)) (st ++ g ++ [.cells 1 true 38 (rowsI t.nodes)]) := by
  have main : CallW C TP 73 [t.d] st fun d st' => ∃ g : Store, g.length = 2 ∧ d = .agg (t.od (st.length + 2) 1) ∧ st' = st ++ g ++ [.cells 1 true 38 (rowsI t.nodes)] := by
    refine call_th rfl rfl (body_h b73 (by show 1 ≤ 8; decide) ?_)
    simp -dsimp only [↓R0, RA, simprocAttr, RQ, hCall_d (d125 hT), ld24]
    exact ⟨[_, _], rfl, rfl, rfl⟩
  obtain ⟨d, st', hd, g, hg, rfl, rfl⟩ := main.does
  exact ⟨g, hg, hd⟩
theorem s101 {p : ByteArray} (hp : p.size ≤ 9223372036854775807) : Gives C TP 101 [.str p] (.bool (decide (slashed p))) := by
  refine gives_frz rfl rfl rfl (body_h b101 (by show 1 ≤ 5; decide) ?_)
  simp -dsimp only [↓R0, RA, simprocAttr, hCall_g (s137 hp)]
  rfl
theorem firstE_0 {es : List Int} : firstE es = 0 ↔ ∀ e ∈ es, e = 0 := by
  induction es with
  | nil => simp [firstE]
  | cons e l ih =>
    unfold firstE
    split
    · rename_i h; simp [h, ih]
    · rename_i h
      constructor
      · intro h'; exact absurd h' h
      · intro h'; exact absurd (h' e (by simp)) h
theorem ite_z {b : Bool} {n : Int} (hn : n ≠ 0) (h : (if b then n else 0) = 0) : b = false := by
  cases b
  · rfl
  · exact absurd h hn
theorem T.named_ok {t : Tr} (hT : T t) {cwd : Int} {p : ByteArray} (h : (t.named cwd p).2 = 0) : ∃ (d k : Nat) (nm : ByteArray), (t.named cwd p).1 = ⟨d, nm, k⟩ ∧ t.parent cwd p = ((d : Int), nm, 0) ∧ t.dir (d : Int) ∧ nm ≠ ⟨#[46]⟩ ∧ nm ≠ ⟨#[46, 46]⟩ ∧ t.live (k : Int) ∧ t.kid (d : Int) nm = k ∧ t.may (d : Int) 3 ∧ (∃ e ∈ (t.at (d : Int)).kids, e.name = nm ∧ e.ino = k) := by
  unfold Tr.named at h ⊢
  have hpd := hT.parent_dir (cwd := cwd) (p := p)
  generalize t.parent cwd p = q at *
  obtain ⟨d, nm, e⟩ := q
  simp only [] at h hpd ⊢
  by_cases h1 : e = 0
  · subst h1
    rw [if_neg (fun h => h rfl)] at h ⊢
    have hd := hpd rfl
    have h := firstE_0.1 h
    have c1 := ite_z (by decide) (h _ (List.Mem.head _))
    have c2 := ite_z (by decide) (h _ (List.Mem.tail _ (List.Mem.head _)))
    have c3 := ite_z (by decide) (h _ (List.Mem.tail _ (List.Mem.tail _ (List.Mem.head _))))
    simp only [decide_eq_false_iff_not, not_or, Bool.not_eq_false', decide_eq_true_eq] at c1 c2 c3
    obtain ⟨d, rfl⟩ : ∃ n : Nat, d = n := ⟨d.toNat, by have := hd.1.1; omega⟩
    rcases hT.kid_cases (d : Int) nm with h2 | ⟨_, h3, _⟩
    · omega
    · obtain ⟨k, hk⟩ : ∃ n : Nat, t.kid (d : Int) nm = n := ⟨(t.kid (d : Int) nm).toNat, by omega⟩
      rw [hk] at h3 ⊢
      refine ⟨d, k, nm, rfl, rfl, hd, c1.1, c1.2, h3, hk, c3, ?_⟩
      unfold Tr.kid at hk
      rw [if_pos hd] at hk
      rcases kidL_cases (t.at (d : Int)).kids nm with ⟨g1, _⟩ | ⟨e, g1, g2, g3⟩
      · omega
      · exact ⟨e, g1, g2, by omega⟩
  · rw [if_pos h1] at h
    exact absurd h h1
def Gone (t : Tr) (cwd : Int) (p : ByteArray) (d : D) : Prop := (∃ e : Int, e ≠ 0 ∧ d = .tup [t.d, .int .i64 e]) ∨
  ∃ (t' : Tr) (k dd : Nat) (nm : ByteArray), d = .tup [t'.d, .int .i64 0] ∧ (t.named cwd p).2 = 0 ∧ (t.named cwd p).1 = ⟨dd, nm, k⟩ ∧ Minus t t' dd k nm
theorem s76 {t : Tr} (hT : T t) {cwd : Int} {p : ByteArray} (hp : p.size ≤ 9223372036854775807) :
    ∃ d, Gives C TP 76 [t.d, .int .i64 cwd, .str p] d ∧ ((∃ e : Int, e ≠ 0 ∧ d = .tup [t.d, .int .i64 e]) ∨
      ∃ (t' : Tr) (k dd : Nat) (nm : ByteArray), d = .tup [t'.d, .int .i64 0] ∧ (t.named cwd p).2 = 0 ∧ (t.named cwd p).1 = ⟨dd, nm, k⟩ ∧ (t.at (k : Int)).kind ≠ 2 ∧ Minus t t' dd k nm) := by
  refine frz_ex rfl rfl (ref3 hT.ok) (body_h b76 (by show 3 ≤ 40; decide) ?_)
  have hno := hT.named_ok (cwd := cwd) (p := p)
  have g69 := s69 (cwd := cwd) hT hp
  generalize t.named cwd p = q at *
  obtain ⟨⟨d, nm, k⟩, e⟩ := q
  simp only [] at hno g69
  simp -dsimp only [↓R0, RA, simprocAttr, hCall_g g69]
  apply hIf_d <;> intro h1
  · subst h1
    obtain ⟨dd, k, nm, e1, hpar, hd, hn1, hn2, hlive, hkid, hmay, hent⟩ := hno rfl
    injection e1 with e1 e2 e3
    subst e1 e2 e3
    simp -dsimp only [↓R0, RA, simprocAttr, hCall_g (s72 hT.ok hlive.1), hCall_d d71, hCall_g (s101 hp)]
    refine hCall_c (d70c (es := [if decide ((t.at (k : Int)).kind = 2) then 21 else 0, if decide (slashed p) then 20 else 0]) rfl rfl rfl (by simp) ?_) ?_
    · intro i hi
      match i, hi with
      | 0, _ => exact Tells.so rfl rfl
      | 1, _ => exact Tells.so rfl rfl
    · have hk2 : firstE [if decide ((t.at (k : Int)).kind = 2) then 21 else 0, if decide (slashed p) then 20 else 0] = 0 → (t.at (k : Int)).kind ≠ 2 := by
        intro h
        have c1 := ite_z (by decide) (firstE_0.1 h _ (List.Mem.head _))
        simpa using c1
      generalize firstE [if decide ((t.at (k : Int)).kind = 2) then 21 else 0, if decide (slashed p) then 20 else 0] = fe at *
      rintro _ st1 ⟨g, rfl, hg⟩
      have p0 : st1[0]? = some (.cells 0 true 24 t.c) := by rw [hg]; rfl
      have p1 : st1[1]? = some (.cells 0 true 24 [.nils, .int .i64 0, .int .i64 0]) := by rw [hg]; rfl
      have p2 : st1[2]? = some (.cells 0 true 104 [.int .i64 dd, .str nm, .int .i64 k]) := by rw [hg]; rfl
      have hlen1 : 3 ≤ st1.length := by rw [hg]; simp
      have hs1 : ∀ b : Blk, (st1.set 1 b)[1]? = some b := fun b => get_set_eq p1
      simp -dsimp only [↓R0, RA, simprocAttr, RQ, p0, p1, p2, hs1, ld24]
      apply hIf_d <;> intro h2
      · have hkl : k < t.nodes.length := by have := hlive.1.2; unfold Tr.n at this; omega
        have hdl : dd < t.nodes.length := by have := hd.1.2; unfold Tr.n at this; omega
        obtain ⟨gg, hgg, hown⟩ := d73 hT (st := st1)
        obtain ⟨ga, gb, rfl⟩ : ∃ a b, gg = [a, b] := by
          rcases gg with _ | ⟨a, _ | ⟨b, _ | ⟨c, g⟩⟩⟩ <;> simp at hgg
          exact ⟨a, b, rfl⟩
        simp only [List.append_assoc, List.cons_append, List.nil_append] at hown
        simp -dsimp only [↓R0, RA, simprocAttr, RQ, decide_eq_true h2, p0, p1, p2, hCall_d hown, get_app p2, Tr.od]
        have h74 := d74 (st := st1 ++ [ga, gb, .cells 1 true 38 (rowsI t.nodes), .cells 0 true 24 [.osl (st1.length + 2) 1 6 0 t.nodes.length, .int .i64 t.mx, .int .i64 t.mb]])
          (id := st1.length + 2) (ver := 1) (dd := dd) (k := k) (ns := t.nodes) (mx := t.mx) (mb := t.mb) (nm := nm) (l := (t.at (dd : Int)).kids)
          (by rw [app_get]; rfl) hdl hkl (by rw [← at_nat hdl]; exact .inl (hT.kds hd.1)) (by have := hT.kids_le hd.1; omega) (by rw [← at_nat hkl]; exact hT.links_le hlive.1)
        refine hCall_c h74 ?_
        rintro _ st2 ⟨kd, q1, q2, q3, q4, q5⟩
        simp only [List.length_append, List.length_cons, List.length_nil, Nat.zero_add, Nat.reduceAdd] at q3 q4 q5
        have r3 : st2[st1.length + 3]? = some (.cells 0 true 24 [.osl (st1.length + 2) 1 6 0 t.nodes.length, .int .i64 t.mx, .int .i64 t.mb]) := by rw [q4 _ (by omega) (by omega), app_get]; rfl
        have r1 : st2[1]? = some (.cells 0 true 24 [.nils, .int .i64 0, .int .i64 0]) := by rw [q4 _ (by omega) (by omega), get_app p1]
        have rs : ∀ b : Blk, (st2.set 1 b)[1]? = some b := fun b => get_set_eq r1
        simp -dsimp only [↓R0, RA, simprocAttr, r3, r1, rs, ld24]
        have hdk : k ≠ dd := (by rintro rfl; exact hk2 h2 hd.2)
        obtain ⟨t', f1, f2⟩ := gone_frz hT (st := st2.set 1 (.cells 0 true 24 [.osl (st1.length + 2) 1 6 0 t.nodes.length, .int .i64 t.mx, .int .i64 t.mb])) (n := 3) (id := st1.length + 2) (ver := 1) hd hkl hdk
          (by rw [get_set_ne (by omega)]; exact q1) (q2.mono fun j hj => get_set_ne (by have h6 := q3 j hj; omega))
        refine ⟨.tup [t'.d, .int .i64 0], ?_, .inr ⟨t', k, dd, nm, rfl, by first | trivial | rfl, by first | trivial | rfl, hk2 h2, f2⟩⟩
        unfold fz
        have e1 : ∀ (a : IntKind) (b : Int), fz (st2.set 1 (.cells 0 true 24 [.osl (st1.length + 2) 1 6 0 t.nodes.length, .int .i64 t.mx, .int .i64 t.mb])) 7 (.int a b) = some (.int a b) := fun a b => fz_0 (by simp only [refs])
        simp only [refs, refsL, List.append_nil, List.isEmpty_cons, Bool.false_eq_true, if_false, mapO, f1, e1]
      · simp -dsimp only [↓R0, RA, simprocAttr, RQ, h2, p0, p1, p2, hs1, ld24]
        exact ⟨_, fz_0 (by simp only [refs, refsL, hT.ok.ref, List.append_nil]), .inl ⟨_, h2, rfl⟩⟩
  · simp -dsimp only [↓R0, RA, simprocAttr, h1, ld24]
    exact ⟨_, fz_0 (by simp only [refs, refsL, hT.ok.ref, List.append_nil]), .inl ⟨_, h1, rfl⟩⟩
theorem fpf72 {st : Store} {ds : List D} : fpC C st (some (.fn 72 [])) (some ds) = .free := fpfrz ⟨rfl, rfl⟩
theorem s46 {t : Tr} (hT : T t) {cwd : Int} {p : ByteArray} (hp : p.size ≤ 9223372036854775807) :
    ∃ d, Gives C TP 46 [t.d, .int .i64 cwd, .str p] d ∧ ((∃ e : Int, e ≠ 0 ∧ d = .tup [t.d, .int .i64 e]) ∨
      ∃ (t' : Tr) (k dd : Nat) (nm : ByteArray), d = .tup [t'.d, .int .i64 0] ∧ (t.named cwd p).2 = 0 ∧ (t.named cwd p).1 = ⟨dd, nm, k⟩ ∧ ((t.at (k : Int)).kind = 2 ∧ (t.at (k : Int)).kids = [] ∧ (k : Int) ≠ cwd) ∧ Minus t t' dd k nm) := by
  refine frz_ex rfl rfl (ref3 hT.ok) (body_h b46 (by show 3 ≤ 53; decide) ?_)
  have hno := hT.named_ok (cwd := cwd) (p := p)
  have g69 := s69 (cwd := cwd) hT hp
  generalize t.named cwd p = q at *
  obtain ⟨⟨d, nm, k⟩, e⟩ := q
  simp only [] at hno g69
  simp -dsimp only [↓R0, RA, simprocAttr, hCall_g g69]
  apply hIf_d <;> intro h1
  · subst h1
    obtain ⟨dd, k, nm, e1, hpar, hd, hn1, hn2, hlive, hkid, hmay, hent⟩ := hno rfl
    injection e1 with e1 e2 e3
    subst e1 e2 e3
    refine regX_h x46_3 c46_3 ?_
    simp -dsimp only [↓R0, RA, simprocAttr, RQ, ↓R5, R6, hCall_g (s72 hT.ok hlive.1), hCall_d d71, un, Tr.ixh hT.ok hlive.1, Tr.c4 hlive.1, (hT.kds hlive.1).lnV]
    refine hCall_c (d70c (es := [if !decide ((t.at (k : Int)).kind = 2) then 20 else 0, if decide (0 < ((t.at (k : Int)).kids.length : Int)) then 39 else 0, if decide ((k : Int) = cwd) then 22 else 0]) rfl rfl rfl (by simp) ?_) ?_
    · intro i hi
      match i, hi with
      | 0, _ => exact Tells.so rfl rfl
      | 1, _ => exact Tells.so rfl rfl
      | 2, _ => exact Tells.so rfl rfl
    · have hk2 : firstE [if !decide ((t.at (k : Int)).kind = 2) then 20 else 0, if decide (0 < ((t.at (k : Int)).kids.length : Int)) then 39 else 0, if decide ((k : Int) = cwd) then 22 else 0] = 0 → (t.at (k : Int)).kind = 2 ∧ (t.at (k : Int)).kids = [] ∧ (k : Int) ≠ cwd := by
        intro h
        have c1 := ite_z (by decide) (firstE_0.1 h _ (List.Mem.head _))
        have c2 := ite_z (by decide) (firstE_0.1 h _ (List.Mem.tail _ (List.Mem.head _)))
        have c3 := ite_z (by decide) (firstE_0.1 h _ (List.Mem.tail _ (List.Mem.tail _ (List.Mem.head _))))
        simp only [decide_eq_false_iff_not, Bool.not_eq_false', decide_eq_true_eq] at c1 c2 c3
        exact ⟨c1, List.eq_nil_of_length_eq_zero (by omega), c3⟩
      generalize firstE [if !decide ((t.at (k : Int)).kind = 2) then 20 else 0, if decide (0 < ((t.at (k : Int)).kids.length : Int)) then 39 else 0, if decide ((k : Int) = cwd) then 22 else 0] = fe at *
      rintro _ st1 ⟨g, rfl, hg⟩
      have p0 : st1[0]? = some (.cells 0 true 24 t.c) := by rw [hg]; rfl
      have p1 : st1[1]? = some (.cells 0 true 24 [.nils, .int .i64 0, .int .i64 0]) := by rw [hg]; rfl
      have p2 : st1[2]? = some (.cells 0 true 104 [.int .i64 dd, .str nm, .int .i64 k]) := by rw [hg]; rfl
      have hlen1 : 3 ≤ st1.length := by rw [hg]; simp
      have hs1 : ∀ b : Blk, (st1.set 1 b)[1]? = some b := fun b => get_set_eq p1
      (simp -dsimp only [↓R0, RA, simprocAttr, RQ, ↓R5, R6, fp71s]; refine ⟨by first | (simp only [fp71s, fpf72]; simp [fpOk]; done) | simp [fpOk], ?_⟩; try simp -dsimp only [↓R0, RA, simprocAttr, RQ, p0, p1, p2, hs1, ld24])
      apply hIf_d <;> intro h2
      · have hkl : k < t.nodes.length := by have := hlive.1.2; unfold Tr.n at this; omega
        have hdl : dd < t.nodes.length := by have := hd.1.2; unfold Tr.n at this; omega
        obtain ⟨gg, hgg, hown⟩ := d73 hT (st := st1)
        obtain ⟨ga, gb, rfl⟩ : ∃ a b, gg = [a, b] := by
          rcases gg with _ | ⟨a, _ | ⟨b, _ | ⟨c, g⟩⟩⟩ <;> simp at hgg
          exact ⟨a, b, rfl⟩
        simp only [List.append_assoc, List.cons_append, List.nil_append] at hown
        simp -dsimp only [↓R0, RA, simprocAttr, RQ, decide_eq_true h2, p0, p1, p2, hCall_d hown, get_app p2, Tr.od]
        have h74 := d74 (st := st1 ++ [ga, gb, .cells 1 true 38 (rowsI t.nodes), .cells 0 true 24 [.osl (st1.length + 2) 1 6 0 t.nodes.length, .int .i64 t.mx, .int .i64 t.mb]])
          (id := st1.length + 2) (ver := 1) (dd := dd) (k := k) (ns := t.nodes) (mx := t.mx) (mb := t.mb) (nm := nm) (l := (t.at (dd : Int)).kids)
          (by rw [app_get]; rfl) hdl hkl (by rw [← at_nat hdl]; exact .inl (hT.kds hd.1)) (by have := hT.kids_le hd.1; omega) (by rw [← at_nat hkl]; exact hT.links_le hlive.1)
        refine hCall_c h74 ?_
        rintro _ st2 ⟨kd, q1, q2, q3, q4, q5⟩
        simp only [List.length_append, List.length_cons, List.length_nil, Nat.zero_add, Nat.reduceAdd] at q3 q4 q5
        have r3 : st2[st1.length + 3]? = some (.cells 0 true 24 [.osl (st1.length + 2) 1 6 0 t.nodes.length, .int .i64 t.mx, .int .i64 t.mb]) := by rw [q4 _ (by omega) (by omega), app_get]; rfl
        have r1 : st2[1]? = some (.cells 0 true 24 [.nils, .int .i64 0, .int .i64 0]) := by rw [q4 _ (by omega) (by omega), get_app p1]
        have rs : ∀ b : Blk, (st2.set 1 b)[1]? = some b := fun b => get_set_eq r1
        simp -dsimp only [↓R0, RA, simprocAttr, r3, r1, rs, ld24]
        have hdk : k ≠ dd := (by rintro rfl; obtain ⟨e, he, _⟩ := hent; rw [(hk2 h2).2.1] at he; cases he)
        obtain ⟨t', f1, f2⟩ := gone_frz hT (st := st2.set 1 (.cells 0 true 24 [.osl (st1.length + 2) 1 6 0 t.nodes.length, .int .i64 t.mx, .int .i64 t.mb])) (n := 3) (id := st1.length + 2) (ver := 1) hd hkl hdk
          (by rw [get_set_ne (by omega)]; exact q1) (q2.mono fun j hj => get_set_ne (by have h6 := q3 j hj; omega))
        refine ⟨.tup [t'.d, .int .i64 0], ?_, .inr ⟨t', k, dd, nm, rfl, by first | trivial | rfl, by first | trivial | rfl, hk2 h2, f2⟩⟩
        unfold fz
        have e1 : ∀ (a : IntKind) (b : Int), fz (st2.set 1 (.cells 0 true 24 [.osl (st1.length + 2) 1 6 0 t.nodes.length, .int .i64 t.mx, .int .i64 t.mb])) 7 (.int a b) = some (.int a b) := fun a b => fz_0 (by simp only [refs])
        simp only [refs, refsL, List.append_nil, List.isEmpty_cons, Bool.false_eq_true, if_false, mapO, f1, e1]
      · simp -dsimp only [↓R0, RA, simprocAttr, RQ, h2, p0, p1, p2, hs1, ld24]
        exact ⟨_, fz_0 (by simp only [refs, refsL, hT.ok.ref, List.append_nil]), .inl ⟨_, h2, rfl⟩⟩
  · simp -dsimp only [↓R0, RA, simprocAttr, h1, ld24]
    exact ⟨_, fz_0 (by simp only [refs, refsL, hT.ok.ref, List.append_nil]), .inl ⟨_, h1, rfl⟩⟩
end
section
def Tr.wi (t : Tr) (x : Int) : Nat → Int → Bool
  | 0, _ => false
  | n + 1, k => if k = x then true else if k = 0 then false else t.wi x n (t.at k).up
def Tr.within (t : Tr) (k x : Int) : Bool := t.wi x (t.nodes.length + 1) k
def WS (A B : Code) (t : Tr) (x k : Int) (b : Bool) (fr : Fr) (ls : LoopState) (q : Option Code) : Store :=
  [.cells 0 true 24 t.c, .cells 0 true 3 [.int .i64 x], .cells 0 true 4 [.bool b], .cells 0 true 24 t.c, .cells 0 true 3 [.int .i64 k], .loop ls q 103 fr 15 #[11] A B]
theorem y103 {t : Tr} {x k k' : Int} {fr : Fr} (h5 : fr 5 = .ptr 1 0 0) (h6 : fr 6 = .ptr 2 0 0) :
    YieldW C TP 5 [.int .i64 k] (WS (cAt (cOf TP 103) [1, 0, 1, 0, 0]) (cAt (cOf TP 103) [1, 0, 1, 0, 1]) t x k' false fr .ready none) fun d st' => (k = x ∧ d = .bool false ∧ st' = WS (cAt (cOf TP 103) [1, 0, 1, 0, 0]) (cAt (cOf TP 103) [1, 0, 1, 0, 1]) t x k' true fr .done (some .ret)) ∨ (k ≠ x ∧ d = .bool true ∧ st' = WS (cAt (cOf TP 103) [1, 0, 1, 0, 0]) (cAt (cOf TP 103) [1, 0, 1, 0, 1]) t x k' false fr .ready none) := by
  refine yield_h (fr1 := upd fr 11 (.int .i64 k)) rfl rfl r103a r103b ?_
  simp -dsimp only [↓R0, RA, simprocAttr]
  refine ⟨trivial, trivial, ?_⟩
  simp only [WS, List.set_cons_succ, List.set_cons_zero]
  simp -dsimp only [↓R0, RA, simprocAttr, h5, h6]
  apply hIf_d <;> intro h
  · simp -dsimp only [↓R0, RA, simprocAttr, h, h5, h6]
    refine ⟨trivial, .inl ⟨trivial, rfl, rfl⟩⟩
  · simp -dsimp only [↓R0, RA, simprocAttr, h, h5, h6]
    refine ⟨trivial, .inr ⟨by first | exact h | trivial, rfl, rfl⟩⟩
theorem w164 {t : Tr} (hT : T t) {x k : Int} {fr : Fr} (h5 : fr 5 = .ptr 1 0 0) (h6 : fr 6 = .ptr 2 0 0) {n : Nat} (hk : t.has k) (hr : rootN t n k = true) :
    BodyW C TP 164 [.yld 5, .ptr 4 0 0, .ptr 3 0 0] (WS (cAt (cOf TP 103) [1, 0, 1, 0, 0]) (cAt (cOf TP 103) [1, 0, 1, 0, 1]) t x k false fr .ready none) fun d st' => ∃ k' : Int, (t.wi x n k = false ∧ st' = WS (cAt (cOf TP 103) [1, 0, 1, 0, 0]) (cAt (cOf TP 103) [1, 0, 1, 0, 1]) t x k' false fr .ready none) ∨ (t.wi x n k = true ∧ st' = WS (cAt (cOf TP 103) [1, 0, 1, 0, 0]) (cAt (cOf TP 103) [1, 0, 1, 0, 1]) t x k' true fr .done (some .ret)) := by
  refine body_h b164 (by show 3 ≤ 17; decide) ?_
  simp -dsimp only [↓R0, RA, simprocAttr]
  refine hLoop_i (fun a : Nat × Int => a.1) (fun a fr' st' => fr' 0 = .yld 5 ∧ fr' 1 = .ptr 4 0 0 ∧ fr' 2 = .ptr 3 0 0 ∧ st' = WS (cAt (cOf TP 103) [1, 0, 1, 0, 0]) (cAt (cOf TP 103) [1, 0, 1, 0, 1]) t x a.2 false fr .ready none ∧ t.has a.2 ∧ rootN t a.1 a.2 = true ∧ t.wi x n k = t.wi x a.1 a.2) (n, k) ⟨rfl, rfl, rfl, rfl, hk, hr, rfl⟩ ?_
  rintro ⟨m, k1⟩ fr1 st1 ⟨h0, h1, h2, rfl, hk1, hr1, hw⟩
  simp only [] at hk1 hr1 hw
  have c4 : ∀ b ls q, (WS (cAt (cOf TP 103) [1, 0, 1, 0, 0]) (cAt (cOf TP 103) [1, 0, 1, 0, 1]) t x k1 b fr ls q)[4]? = some (.cells 0 true 3 [.int .i64 k1]) := fun _ _ _ => rfl
  have c3 : ∀ b ls q, (WS (cAt (cOf TP 103) [1, 0, 1, 0, 0]) (cAt (cOf TP 103) [1, 0, 1, 0, 1]) t x k1 b fr ls q)[3]? = some (.cells 0 true 24 t.c) := fun _ _ _ => rfl
  simp -dsimp only [↓R0, RA, simprocAttr, h0, h1, h2, c4, c3]
  cases m with
  | zero => simp [rootN] at hr1
  | succ m =>
    refine hYield_c (y103 h5 h6) ?_
    rintro _ _ (⟨he, rfl, rfl⟩ | ⟨he, rfl, rfl⟩)
    · simp -dsimp only [↓R0, RA, simprocAttr]
      refine ⟨k1, .inr ⟨?_, by first | trivial | rfl⟩⟩
      rw [hw, Tr.wi, if_pos he]
    · simp -dsimp only [↓R0, RA, simprocAttr, h0, h1, h2, c4, c3]
      apply hIf_d <;> intro h
      · simp -dsimp only [↓R0, RA, simprocAttr, decide_eq_true h]
        refine ⟨k1, .inl ⟨?_, by first | trivial | rfl⟩⟩
        rw [hw, Tr.wi, if_neg he, if_pos h]
      · unfold rootN at hr1
        rw [if_neg h] at hr1
        split at hr1
        · rename_i hup
          have cs : ∀ v, (WS (cAt (cOf TP 103) [1, 0, 1, 0, 0]) (cAt (cOf TP 103) [1, 0, 1, 0, 1]) t x k1 false fr .ready none).set 4 (.cells 0 true 3 [.int .i64 v]) = WS (cAt (cOf TP 103) [1, 0, 1, 0, 0]) (cAt (cOf TP 103) [1, 0, 1, 0, 1]) t x v false fr .ready none := fun _ => rfl
          simp -dsimp only [↓R0, RA, simprocAttr, h, h0, h1, h2, c4, c3, Tr.ixh hT.ok hk1, Tr.c5 hk1, cs]
          refine ⟨(m, (t.at k1).up), by simp, (by first | trivial | (simp -dsimp only [R1, simprocAttr, h0]; done) | rfl), (by first | trivial | (simp -dsimp only [R1, simprocAttr, h1]; done) | rfl), (by first | trivial | (simp -dsimp only [R1, simprocAttr, h2]; done) | rfl), rfl, hup.1, hr1, ?_⟩
          rw [hw, Tr.wi, if_neg he, if_neg h]
        · cases hr1
theorem s103 {t : Tr} (hT : T t) {k x : Int} (hk : t.dir k) : Gives C TP 103 [t.d, .int .i64 k, .int .i64 x] (.bool (t.within k x)) := by
  refine gives_frz rfl rfl (by simp only [refsL, refs, Tr.d, Tr.c, hT.ok.ref, List.append_nil]) (body_h b103 (by show 3 ≤ 15; decide) ?_)
  have d142 : ∀ st : Store, Does1 C TP 142 [t.d, .int .i64 k] st (.fn 164 [.ptr (st.length + 1) 0 0, .ptr st.length 0 0]) (st ++ [.cells 0 true 24 t.c, .cells 0 true 3 [.int .i64 k]]) := by
    intro st
    refine does_of (call_th rfl rfl (body_h b142 (by show 2 ≤ 6; decide) ?_))
    simp -dsimp only [↓R0, RA, simprocAttr, RQ]
  simp -dsimp only [↓R0, RA, simprocAttr, hCall_d (d142 _)]
  refine hBody_c (w164 (x := x) hT rfl rfl hk.1 (hT.fit.rooted k hk)) ?_
  rintro d st' ⟨k', (⟨hw, rfl⟩ | ⟨hw, rfl⟩)⟩
  · simp -dsimp only [↓R0, RA, simprocAttr, pop_r (show (WS (cAt (cOf TP 103) [1, 0, 1, 0, 0]) (cAt (cOf TP 103) [1, 0, 1, 0, 1]) t x k' false _ .ready none)[5]? = _ from rfl), WS]
    unfold Tr.within; rw [hw]; rfl
  · simp -dsimp only [↓R0, RA, simprocAttr, pop_d (show (WS (cAt (cOf TP 103) [1, 0, 1, 0, 0]) (cAt (cOf TP 103) [1, 0, 1, 0, 1]) t x k' true _ .done (some .ret))[5]? = _ from rfl), WS]
    unfold Tr.within; rw [hw]; rfl
end
end Go.Mm
end
