/- A part of the proof of FilesFitCardSaid: S35, S36, S37, S38, S39, S40, S41, S42, S43. -/
import Derived.Test.YtamefnngdhbjiaaGreatDoorFitB2
import Derived.Test.YtamefnngdhbjiaaGreatDoorFitB1
import Derived.Test.YtamefnngdhbjiaaGreatDoorFitA6
set_option linter.all false
section
namespace Go.Mm
open Go.Proofs
variable [Globs] [GOk]
set_option maxRecDepth 8000
open Go.Proofs.Tryz renaming prog → TP
section
variable {t t' : Tr} {cwd s : Int} {o : ByteArray} {a b : D} {w : Nat} {st : Store}
theorem fpf77 {st : Store} {ds : List D} : fpC C st (some (.fn 77 [])) (some ds) = .free := fpfrz ⟨rfl, rfl⟩
def CpR (t : Tr) (cwd : Int) (from_ to : ByteArray) (t' : Tr) : Prop :=
  (t.walk cwd from_ true).2 = 0 ∧ (t.at (t.walk cwd from_ true).1).kind = 1 ∧ ∃ (m : Nat) (t1 t2 : Tr),
    (((t.walk cwd to true).2 = 0 ∧ (t.walk cwd to true).1 = m ∧ (t.at (m : Int)).kind = 1 ∧ (m : Int) ≠ (t.walk cwd from_ true).1 ∧ t1 = t) ∨ ((t.walk cwd to true).2 ≠ 0 ∧ NewF t t1 cwd to (t.at (t.walk cwd from_ true).1).mode m)) ∧
    T t1 ∧ Filled t1 t2 m emS ∧ Filled t2 t' m (t.at (t.walk cwd from_ true).1).data
theorem copy_end {m : Nat} {c : Ino} {t1 : Tr} {R : Tr → Prop} (hT1 : T t1) (hm : t1.has (m : Int)) (hf : (t1.at (m : Int)).kind = 1) (hs : c.data.size ≤ 65536) (hk : Kept t cwd t1)
    (hR : ∀ t2 t', T t1 → Filled t1 t2 m emS → Filled t2 t' m c.data → R t') :
    ∃ t2, Gives C TP 97 [t1.d, .int .i64 m, .int .i64 0] (.tup [t2.d, .int .i64 0]) ∧ Kept t cwd t2 ∧ Filled t1 t2 m emS ∧
      (Gives C TP 98 [t2.d, .int .i64 m, .int .i64 0, .str c.data] (.tup [t2.d, .int .i64 28]) ∨ ∃ t', Gives C TP 98 [t2.d, .int .i64 m, .int .i64 0, .str c.data] (.tup [t'.d, .int .i64 0]) ∧ Kept t cwd t' ∧ R t') := by
  obtain ⟨_, g1, t2, rfl, hF1⟩ := s97 hT1 hm hf
  have hk2 : Kept t1 cwd t2 := Filled.kept hT1 hF1 hm hf (by decide) (by
    have h1 := Tr.size_le (t := t1) hm
    have h2 := hT1.fit.bytes
    have h3 : emS.size = 0 := rfl
    omega)
  have hm2 : t2.has (m : Int) := has_nat (by have := lt_of hm; rw [hF1.like.len]; exact this)
  have hv : (t2.at (m : Int)).v = { (t1.at (m : Int)).v with data := emS } := by
    have := hF1.ex m (lt_of hm)
    rw [if_pos rfl] at this; exact this
  have hf2 : (t2.at (m : Int)).kind = 1 := by
    have : (t2.at (m : Int)).v.kind = 1 := by rw [hv]; exact hf
    exact this
  have hd2 : (t2.at (m : Int)).data = emS := by
    have : (t2.at (m : Int)).v.data = emS := by rw [hv]
    exact this
  obtain ⟨_, g2, h⟩ := s98 hk2.1 (s := c.data) hm2 hf2 hs (by rw [hd2]; exact Nat.zero_le _)
  refine ⟨t2, g1, hk.trans hk2, hF1, ?_⟩
  rcases h with rfl | ⟨t', rfl, hby, hF2⟩
  · exact .inl g2
  · exact .inr ⟨t', g2, (hk.trans hk2).trans (Filled.kept hk2.1 hF2 hm2 hf2 hs (by
      have h1 := Tr.size_le (t := t2) hm2
      omega)), hR t2 t' hT1 hF1 hF2⟩
theorem new_has {m : Int} {p : ByteArray} {k : Nat} (h : NewF t t' cwd p m k) : t'.has (k : Int) ∧ (t'.at (k : Int)).kind = 1 := by
  obtain ⟨dd, nm, h1, h2, h3, h4, h5, h6⟩ := h
  refine ⟨has_nat (by rw [h6.like.len]; exact h2.1), ?_⟩
  obtain ⟨i, _, _, _, hv⟩ := h6.ex
  have := hv k h2.1
  rw [if_pos rfl] at this
  have h7 : (t'.at (k : Int)).v.kind = 1 := by rw [this]
  exact h7
theorem d59 {p q : ByteArray} (hT : T t) (hp : p.size ≤ 1000000) (hq : q.size ≤ 1000000) (hw : st[w]? = some (.cells 0 true 57 (wc t cwd o a b s))) :
    CallW C TP 59 [.ptr w 0 0, .str p, .str q] st fun _ st' => Wrk t cwd o a b s w st st' fun t' s' => s' = 1 ∨ CpR t cwd p q t' := by
  refine call_th rfl rfl (body_h b59 (by show 3 ≤ 135; decide) ?_)
  have hwl := get_lt hw
  have bad : ∀ (st1 : Store), st1[w]? = some (.cells 0 true 57 (wc t cwd o a b s)) → Lft w st st1 → Wrk t cwd o a b s w st (st1.set w (.cells 0 true 57 (wc t cwd o a b 1))) fun t' s' => s' = 1 ∨ CpR t cwd p q t' :=
    fun st1 h1 h2 => ⟨t, 1, get_set_eq h1, .refl hT, .inr rfl, h2.trans Lft.set, .inl rfl⟩
  simp -dsimp only [↓R0, RA, simprocAttr, hCall_d (d58 hT hp hw), un]
  apply hIf_d <;> intro h1
  rotate_left
  · simp -dsimp only [↓R0, RA, simprocAttr, decide_eq_false h1, hw, un]
    exact bad _ hw .refl
  have hl := hT.walk_live h1
  simp -dsimp only [↓R0, RA, simprocAttr, decide_eq_true h1, hw, ld24, Tr.ixh hT.ok hl.1, Tr.c0 hl.1, un]
  apply hIf_d <;> intro h2
  rotate_left
  · simp -dsimp only [↓R0, RA, simprocAttr, decide_eq_false h2, hw, un]
    exact bad _ hw .refl
  simp -dsimp only [↓R0, RA, simprocAttr, decide_eq_true h2, hw, ld24, un, hCall_g (s79 hT.ok hT.modes (show (0 : Int) ≤ 4 ∧ (4 : Int) ≤ 7 by decide))]
  apply hIf_d <;> intro h3
  rotate_left
  · simp -dsimp only [↓R0, RA, simprocAttr, decide_eq_false h3, hw, un]
    exact bad _ hw .refl
  generalize hc : t.at (t.walk cwd p true).1 = c at *
  simp -dsimp only [↓R0, RA, simprocAttr, RQ, decide_eq_true h3, hw, get_app hw, ld24, un, Tr.ixh hT.ok hl.1, Tr.crow hl.1, Tr.cle hl.1, hc, Ino.row, hCall_d (d58 hT hq (get_app hw))]
  have hcs : c.data.size ≤ 65536 := by rw [← hc]; exact (hT.fit.one _ hl.1).2
  have hcm : 0 ≤ c.mode ∧ c.mode ≤ 7 := hT.modes c (by rw [← hc]; exact Tr.at_mem hl.1)
  have wsz : IntKind.i64.wrap 0 = 0 := rfl
  apply hIf_d <;> intro g1
  · have hl2 := hT.walk_live g1
    obtain ⟨m, hm, hml⟩ := has_ex hl2.1
    have hl2' : t.live (m : Int) := by rw [← hm]; exact hl2
    simp -dsimp only [↓R0, RA, simprocAttr, RQ, decide_eq_true g1, get_app hw, ld24, hm, Tr.ixh hT.ok hl2'.1, Tr.c0 hl2'.1, un]
    apply hIf_d <;> intro g2
    rotate_left
    · simp -dsimp only [↓R0, RA, simprocAttr, RQ, decide_eq_true g1, decide_eq_false g2, get_app hw, un]
      exact bad _ (get_app hw) .app
    simp -dsimp only [↓R0, RA, simprocAttr, RQ, decide_eq_true g1, decide_eq_true g2, get_app hw, ld24, un]
    apply hIf_d <;> intro g3
    · simp -dsimp only [↓R0, RA, simprocAttr, RQ, decide_eq_true g1, decide_eq_true g3, get_app hw, un]
      exact bad _ (get_app hw) .app
    simp -dsimp only [↓R0, RA, simprocAttr, RQ, decide_eq_true g1, decide_eq_false g3, get_app hw, ld24, un, hCall_g (s79 hT.ok hT.modes (show (0 : Int) ≤ 2 ∧ (2 : Int) ≤ 7 by decide))]
    apply hIf_d <;> intro g4
    rotate_left
    · simp -dsimp only [↓R0, RA, simprocAttr, RQ, decide_eq_true g1, decide_eq_false g4, get_app hw, un]
      exact bad _ (get_app hw) .app
    obtain ⟨t2, k1, k2, k3, k4⟩ := copy_end (cwd := cwd) (m := m) (c := c) (R := fun t' => CpR t cwd p q t') hT hl2'.1 g2 hcs (.refl hT) (fun t2 t' b1 b2 b3 => ⟨h1, by rw [hc]; exact h2, m, t, t2, (.inl ⟨g1, hm, g2, by rw [← hm]; exact g3, rfl⟩), b1, b2, by rw [hc]; exact b3⟩)
    simp -dsimp only [↓R0, RA, simprocAttr, RQ, (get_app hw), ld24, un, hCall_g k1, hm, decide_eq_true g1, decide_eq_true g4, decide_eq_false g3, decide_eq_true g2]
    refine hCall_c (d45 (t' := t2) (get_app hw)) ?_
    rintro _ st2 ⟨rfl, q1, q2⟩
    have qc : st2[st.length]? = some (.cells 0 true 38 [.int .i64 c.kind, .int .i64 c.mode, .int .i64 c.links, .str c.data, c.kd, .int .i64 c.up]) := q2.get (by rw [app_get0]; rfl) (by omega)
    rcases k4 with k4 | ⟨t', k4, k5, k6⟩
    · simp -dsimp only [↓R0, RA, simprocAttr, RQ, q1, ld24, qc, hm, hCall_g k4]
      refine hCall_c (d45e (t' := t2) (e := 28) (by decide) rfl q1) ?_
      rintro _ st3 ⟨rfl, r1, r2⟩
      simp -dsimp only [↓R0, RA, simprocAttr, RQ]
      exact ⟨t2, 1, r1, k2, .inr rfl, (Lft.app.trans q2).trans r2, .inl rfl⟩
    · simp -dsimp only [↓R0, RA, simprocAttr, RQ, q1, ld24, qc, hm, hCall_g k4]
      refine hCall_c (d45 (t' := t') q1) ?_
      rintro _ st3 ⟨rfl, r1, r2⟩
      simp -dsimp only [↓R0, RA, simprocAttr, RQ]
      exact ⟨t', s, r1, k5, .inl rfl, (Lft.app.trans q2).trans r2, .inr k6⟩
  · simp -dsimp only [↓R0, RA, simprocAttr, RQ, decide_eq_false g1, get_app hw, un]
    refine regX_h x59_8 c59_8 ?_
    rcases s77k (cwd := cwd) (p := q) (m := c.mode) hT hq hcm with ⟨e, he, hg⟩ | ⟨t1, m, hg, hk, hn⟩
    · simp -dsimp only [↓R0, RA, simprocAttr, RQ, ↓R5, R6, get_app hw, ld24, hCall_g hg, app_get0]
      refine ⟨by simp [fpOk, fpf77, fl_p]; omega, ?_⟩
      refine hCall_c (d45e (t := t) (t' := t) he rfl (get_app hw)) ?_
      rintro _ st3 ⟨rfl, r1, r2⟩
      simp -dsimp only [↓R0, RA, simprocAttr, RQ, un]
      exact ⟨t, 1, r1, .refl hT, .inr rfl, Lft.app.trans r2, .inl rfl⟩
    · have hnh := new_has hn
      simp -dsimp only [↓R0, RA, simprocAttr, RQ, ↓R5, R6, get_app hw, ld24, hCall_g hg, app_get0]
      refine ⟨by simp [fpOk, fpf77, fl_p]; omega, ?_⟩
      refine hCall_c (d45 (t := t) (t' := t1) (get_app hw)) ?_
      rintro _ st1 ⟨rfl, u1, u2⟩
      have qc0 : st1[st.length]? = some (.cells 0 true 38 [.int .i64 c.kind, .int .i64 c.mode, .int .i64 c.links, .str c.data, c.kd, .int .i64 c.up]) := u2.get (by rw [app_get0]; rfl) (by omega)
      simp -dsimp only [↓R0, RA, simprocAttr, RQ, un]
      obtain ⟨t2, k1, k2, k3, k4⟩ := copy_end (cwd := cwd) (m := m) (c := c) (R := fun t' => CpR t cwd p q t') hk.1 hnh.1 hnh.2 hcs hk (fun t2 t' b1 b2 b3 => ⟨h1, by rw [hc]; exact h2, m, t1, t2, (.inr ⟨g1, by rw [hc]; exact hn⟩), b1, b2, by rw [hc]; exact b3⟩)
      simp -dsimp only [↓R0, RA, simprocAttr, RQ, u1, ld24, un, hCall_g k1, un]
      refine hCall_c (d45 (t' := t2) u1) ?_
      rintro _ st2 ⟨rfl, q1, q2⟩
      have qc : st2[st.length]? = some (.cells 0 true 38 [.int .i64 c.kind, .int .i64 c.mode, .int .i64 c.links, .str c.data, c.kd, .int .i64 c.up]) := q2.get qc0 (by omega)
      rcases k4 with k4 | ⟨t', k4, k5, k6⟩
      · simp -dsimp only [↓R0, RA, simprocAttr, RQ, q1, ld24, qc, un, hCall_g k4]
        refine hCall_c (d45e (t' := t2) (e := 28) (by decide) rfl q1) ?_
        rintro _ st3 ⟨rfl, r1, r2⟩
        simp -dsimp only [↓R0, RA, simprocAttr, RQ]
        exact ⟨t2, 1, r1, k2, .inr rfl, ((Lft.app.trans u2).trans q2).trans r2, .inl rfl⟩
      · simp -dsimp only [↓R0, RA, simprocAttr, RQ, q1, ld24, qc, un, hCall_g k4]
        refine hCall_c (d45 (t' := t') q1) ?_
        rintro _ st3 ⟨rfl, r1, r2⟩
        simp -dsimp only [↓R0, RA, simprocAttr, RQ]
        exact ⟨t', s, r1, k5, .inl rfl, ((Lft.app.trans u2).trans q2).trans r2, .inr k6⟩
end
end Go.Mm
end
section
namespace Go.Mm
open Go.Proofs
variable [Globs]
set_option maxRecDepth 8000
open Go.Proofs.Tryz renaming prog → TP
section
def BSt (A B : Code) (cur : ByteArray) (b1 : Blk) (fr : Fr) (ls : LoopState) : Store := [.cells 0 true 9 [.str cur], b1, .loop ls none 43 fr 12 #[9] A B]
theorem y43 {cur x : ByteArray} {b1 : Blk} {fr : Fr} (h3 : fr 3 = .ptr 0 0 0) : YieldW C TP 2 [.str x] (BSt (cAt (cOf TP 43) [1, 1, 1, 0, 1, 0, 0]) (cAt (cOf TP 43) [1, 1, 1, 0, 1, 0, 1]) cur b1 fr .ready) fun d st' => d = .bool true ∧ st' = BSt (cAt (cOf TP 43) [1, 1, 1, 0, 1, 0, 0]) (cAt (cOf TP 43) [1, 1, 1, 0, 1, 0, 1]) x b1 fr .ready := by
  refine yield_h (fr1 := upd fr 9 (.str x)) rfl rfl r43a r43b ?_
  simp -dsimp only [↓R0, RA, simprocAttr]
  refine ⟨trivial, trivial, ?_⟩
  simp only [BSt, List.set_cons_succ, List.set_cons_zero]
  simp -dsimp only [↓R0, RA, simprocAttr, h3]
  exact ⟨by first | trivial | rfl, by first | trivial | rfl⟩
def baseP (p : ByteArray) : ByteArray := (parts p).getLast?.getD (if whole p then slS else emS)
theorem s43 {p : ByteArray} (hz : p.size ≤ 1000000000) : Gives C TP 43 [.str p] (.str (baseP p)) := by
  refine gives_frz rfl rfl rfl (body_h b43 (by show 1 ≤ 12; decide) ?_)
  have key : ∀ (s0 : ByteArray) (fr : Fr), fr 3 = .ptr 0 0 0 → baseP p = (parts p).getLast?.getD s0 → BodyW C TP 118 [.yld 2, .ptr 1 0 0] (BSt (cAt (cOf TP 43) [1, 1, 1, 0, 1, 0, 0]) (cAt (cOf TP 43) [1, 1, 1, 0, 1, 0, 1]) s0 (.cells 0 true 9 [.str p]) fr .ready) fun _ st' => ∃ b1, st' = BSt (cAt (cOf TP 43) [1, 1, 1, 0, 1, 0, 0]) (cAt (cOf TP 43) [1, 1, 1, 0, 1, 0, 1]) (baseP p) b1 fr .ready := by
    intro s0 fr h3 hb
    refine BodyW.mono (w118 (lid := 2) (pb := 1) (pv := 0) (p := p) (done := []) (J := fun l st' => ∃ b1, st' = BSt (cAt (cOf TP 43) [1, 1, 1, 0, 1, 0, 0]) (cAt (cOf TP 43) [1, 1, 1, 0, 1, 0, 1]) (l.getLast?.getD s0) b1 fr .ready) ?_ ?_ (by omega) rfl ⟨_, rfl⟩) ?_
    · rintro l _ c ⟨b1, rfl⟩
      exact ⟨c, rfl⟩
    · rintro dn x r _ cs heq ⟨b1, rfl⟩ hc
      obtain ⟨k, d, st2, hr, rfl, rfl⟩ := y43 (cur := dn.getLast?.getD s0) (x := x) (b1 := b1) h3
      exact ⟨k, _, _, hr, rfl, ⟨b1, by simp⟩, hc⟩
    · rintro _ st' ⟨b1, h⟩
      exact ⟨b1, by rw [hb]; simpa using h⟩
  simp -dsimp only [↓R0, RA, simprocAttr, hCall_g s64]
  apply hIf_d <;> intro h
  · simp -dsimp only [↓R0, RA, simprocAttr, decide_eq_true h, hCall_d d66]
    refine hBody_c (key slS _ rfl (by unfold baseP; rw [if_pos h])) ?_
    rintro _ _ ⟨b1, rfl⟩
    simp -dsimp only [↓R0, RA, simprocAttr, BSt, popLoop]
    simp [fz_s]
  · simp -dsimp only [↓R0, RA, simprocAttr, decide_eq_false h, hCall_d d66]
    refine hBody_c (key emS _ rfl (by unfold baseP; rw [if_neg h])) ?_
    rintro _ _ ⟨b1, rfl⟩
    simp -dsimp only [↓R0, RA, simprocAttr, BSt, popLoop]
    simp [fz_s]
end
end Go.Mm
end
section
namespace Go.Mm
open Go.Proofs
variable [Globs] [GOk]
set_option maxRecDepth 8000
open Go.Proofs.Tryz renaming prog → TP
section
variable {t t' : Tr} {cwd s : Int} {o : ByteArray} {a b : D} {w : Nat} {st : Store}
theorem s60k {p q : ByteArray} (hT : T t) (hp : p.size ≤ 1000000) (hq : q.size ≤ 1000000) : (∃ e : Int, e ≠ 0 ∧ Gives C TP 60 [t.d, .int .i64 cwd, .str p, .str q] (.tup [t.d, .int .i64 e])) ∨ ∃ t', Gives C TP 60 [t.d, .int .i64 cwd, .str p, .str q] (.tup [t'.d, .int .i64 0]) ∧ Kept t cwd t' := by
  obtain ⟨d', hg, h⟩ := s60 (cwd := cwd) (old := p) (p := q) hT (by omega) (by omega)
  rcases h with ⟨e, he, rfl⟩ | ⟨d, k, to, nm, last, h1, h2, h3, h4, h5, h6, h7⟩
  · exact .inl ⟨e, he, hg⟩
  · obtain ⟨d1, k1, nm1, e1, _, hd, _, _, hl, hkid, _, hent⟩ := hT.named_ok h1
    rw [h2] at e1
    injection e1 with e1 e2 e3
    have q1 : d = d1 := by omega
    have q3 : k = k1 := by omega
    subst q1 q3 e2
    have hto : t.dir (to : Int) := by
      have := hT.parent_dir (cwd := cwd) (p := q) (by rw [h3])
      rw [h3] at this; exact this
    rcases h7 with ⟨e, he, rfl⟩ | ⟨rfl, _⟩ | ⟨t', rfl, g1, g2, g3, g4⟩
    · exact .inl ⟨e, he, hg⟩
    · exact .inr ⟨t, hg, .refl hT⟩
    · exact .inr ⟨t', hg, g4.kept hT hd hto hl hkid hent h4 h6 g1 g2 g3⟩
theorem s62k {p q : ByteArray} (hT : T t) (hp : p.size ≤ 1000000) (hq : q.size ≤ 1000000) : (∃ e : Int, e ≠ 0 ∧ Gives C TP 62 [t.d, .int .i64 cwd, .str p, .str q] (.tup [t.d, .int .i64 0, .int .i64 e])) ∨ ∃ (t' : Tr) (k : Nat), Gives C TP 62 [t.d, .int .i64 cwd, .str p, .str q] (.tup [t'.d, .int .i64 k, .int .i64 0]) ∧ Kept t cwd t' := by
  obtain ⟨d, hg, h, hbad⟩ := s62 (cwd := cwd) (s := p) (p := q) hT (by omega) (by omega)
  rcases Classical.em (p = emS ∨ 0 ∈ bl p ∨ 1024 < p.size) with hb | hb
  · obtain ⟨e, he, rfl⟩ := hbad hb
    exact .inl ⟨e, he, hg⟩
  · rcases h with ⟨e, he, rfl⟩ | ⟨t', k, dd, nm, rfl, h1, h2, h3, h4, h5, h6, h7, h8⟩
    · exact .inl ⟨e, he, hg⟩
    · have b1 : p ≠ emS := fun x => hb (.inl x)
      have b2 : 0 ∉ bl p := fun x => hb (.inr (.inl x))
      have b3 : p.size ≤ 1024 := by
        rcases Nat.lt_or_ge 1024 p.size with x | x
        · exact absurd (.inr (.inr x)) hb
        · exact x
      exact .inr ⟨t', k, hg, made_kept (p := q) (m := 7) (x := mkS p) hT h1 h2 h3 h4 h5 h6 h7 h8 ⟨fun q => absurd (show (3 : Int) = 0 from q) (by decide), fun _ => ⟨by show (0 : Int) ≤ 7; decide, by show (7 : Int) ≤ 7; decide⟩, fun q => absurd (show (3 : Int) = 1 from q) (by decide), fun _ => ⟨b2, rfl, rfl, b1, b3⟩, fun q => absurd (show (3 : Int) = 2 from q) (by decide), .inr (.inr (.inr rfl))⟩
        (by show (3 : Int) ≠ 0; decide) rfl (by show p.size ≤ 65536; omega) (fun q => absurd (show (3 : Int) = 2 from q) (by decide))⟩
theorem s63k {p q : ByteArray} (hT : T t) (hp : p.size ≤ 1000000) (hq : q.size ≤ 1000000) : (∃ e : Int, e ≠ 0 ∧ Gives C TP 63 [t.d, .int .i64 cwd, .str p, .str q] (.tup [t.d, .int .i64 e])) ∨ ∃ t', Gives C TP 63 [t.d, .int .i64 cwd, .str p, .str q] (.tup [t'.d, .int .i64 0]) ∧ Kept t cwd t' := by
  obtain ⟨d', hg, h⟩ := s63 (cwd := cwd) (o := p) (p := q) hT (by omega) (by omega)
  rcases h with ⟨e, he, rfl⟩ | ⟨t', k, dd, nm, rfl, h1, h2, h3, h4, h5⟩
  · exact .inl ⟨e, he, hg⟩
  · have hf := hT.fresh_ok (cwd := cwd) (p := q) (dirs := false) (by rw [h3])
    rw [h3] at hf
    have hl := hT.walk_live (cwd := cwd) (p := p) (follow := false) (by rw [h1])
    rw [h1] at hl
    exact .inr ⟨t', hg, h5.kept hT hf.1 hl h2 hf.2.2 hf.2.1 h4⟩
abbrev cpS : ByteArray := ⟨#[99, 112]⟩
abbrev mvS : ByteArray := ⟨#[109, 118]⟩
def BrR (t : Tr) (cwd : Int) (nm p q : ByteArray) (t' : Tr) (s' : Int) : Prop := nm = cpS → s' = 1 ∨ CpR t cwd p q t'
theorem d41 {nm p q : ByteArray} (hT : T t) (hp : p.size ≤ 1000000) (hq : q.size ≤ 1000000) (hw : st[w]? = some (.cells 0 true 57 (wc t cwd o a b s))) :
    CallW C TP 41 [.ptr w 0 0, .str nm, .str p, .str q] st fun _ st' => Wrk t cwd o a b s w st st' (BrR t cwd nm p q) := by
  refine call_th rfl rfl (body_h b41 (by show 4 ≤ 67; decide) ?_)
  simp -dsimp only [↓R0, RA, simprocAttr]
  apply hIf_d <;> intro h1
  · simp -dsimp only [↓R0, RA, simprocAttr, decide_eq_true h1]
    refine hCall_c (d59 hT hp hq hw) ?_
    rintro _ st1 ⟨t1, s1, g1, g2, g3, g4, g5⟩
    simp -dsimp only [↓R0, RA, simprocAttr]
    exact ⟨t1, s1, g1, g2, g3, g4, fun _ => g5⟩
  have hno : nm ≠ cpS := h1
  simp -dsimp only [↓R0, RA, simprocAttr, decide_eq_false h1]
  apply hIf_d <;> intro h2
  · simp -dsimp only [↓R0, RA, simprocAttr, decide_eq_true h2]
    rcases s60k (cwd := cwd) hT hp hq with ⟨e, he, hg⟩ | ⟨t', hg, hk⟩
    · simp -dsimp only [↓R0, RA, simprocAttr, hw, ld24, hCall_g hg]
      refine hCall_c (d45e (t' := t) he rfl hw) ?_
      rintro _ st' ⟨rfl, r1, r2⟩
      simp -dsimp only [↓R0, RA, simprocAttr]
      exact ⟨t, 1, r1, .refl hT, .inr rfl, r2, fun x => absurd x hno⟩
    · simp -dsimp only [↓R0, RA, simprocAttr, hw, ld24, hCall_g hg]
      refine hCall_c (d45 (t' := t') hw) ?_
      rintro _ st' ⟨rfl, r1, r2⟩
      simp -dsimp only [↓R0, RA, simprocAttr]
      exact ⟨t', s, r1, hk, .inl rfl, r2, fun x => absurd x hno⟩
  simp -dsimp only [↓R0, RA, simprocAttr, decide_eq_false h2, hCall_d (d18 hw)]
  refine hIf_b (fun h3 => ?_) (fun h3 => ?_)
  · simp -dsimp only [↓R0, RA, simprocAttr, h3]
    rcases s62k (cwd := cwd) hT hp hq with ⟨e, he, hg⟩ | ⟨t', k, hg, hk⟩
    · simp -dsimp only [↓R0, RA, simprocAttr, hw, ld24, hCall_g hg]
      refine hCall_c (d61e (t' := t) he hw) ?_
      rintro _ st' ⟨rfl, r1, r2⟩
      simp -dsimp only [↓R0, RA, simprocAttr]
      exact ⟨t, 1, r1, .refl hT, .inr rfl, r2, fun x => absurd x hno⟩
    · simp -dsimp only [↓R0, RA, simprocAttr, hw, ld24, hCall_g hg]
      refine hCall_c (d61 (t' := t') hw) ?_
      rintro _ st' ⟨rfl, r1, r2⟩
      simp -dsimp only [↓R0, RA, simprocAttr]
      exact ⟨t', s, r1, hk, .inl rfl, r2, fun x => absurd x hno⟩
  · simp -dsimp only [↓R0, RA, simprocAttr, h3]
    rcases s63k (cwd := cwd) hT hp hq with ⟨e, he, hg⟩ | ⟨t', hg, hk⟩
    · simp -dsimp only [↓R0, RA, simprocAttr, hw, ld24, hCall_g hg]
      refine hCall_c (d45e (t' := t) he rfl hw) ?_
      rintro _ st' ⟨rfl, r1, r2⟩
      simp -dsimp only [↓R0, RA, simprocAttr]
      exact ⟨t, 1, r1, .refl hT, .inr rfl, r2, fun x => absurd x hno⟩
    · simp -dsimp only [↓R0, RA, simprocAttr, hw, ld24, hCall_g hg]
      refine hCall_c (d45 (t' := t') hw) ?_
      rintro _ st' ⟨rfl, r1, r2⟩
      simp -dsimp only [↓R0, RA, simprocAttr]
      exact ⟨t', s, r1, hk, .inl rfl, r2, fun x => absurd x hno⟩
end
section
variable {t t' : Tr} {cwd s : Int} {o : ByteArray} {a b : D} {w : Nat} {st : Store}
theorem partsA_size : ∀ (l cur : List UInt8), ∀ x ∈ partsA l cur, x.size ≤ cur.length + l.length
  | [], cur, x, h => by
    rw [partsA] at h
    split at h
    · cases h
    · simp only [List.mem_singleton] at h; subst h; rw [sz_ofL]; simp
  | c :: l, cur, x, h => by
    rw [partsA] at h
    split at h
    · split at h
      · have := partsA_size l [] x h; simp at this ⊢; omega
      · rcases List.mem_cons.1 h with rfl | h
        · rw [sz_ofL]; omega
        · have := partsA_size l [] x h; simp at this ⊢; omega
    · have := partsA_size l (cur ++ [c]) x h; simp at this ⊢; omega
theorem parts_size {p x : ByteArray} (h : x ∈ parts p) : x.size ≤ p.size := by
  have := partsA_size (bl p) [] x h
  rw [sz (s := p)]; simpa using this
theorem baseP_size {p : ByteArray} : (baseP p).size ≤ p.size + 1 := by
  unfold baseP
  cases h : (parts p).getLast? with
  | none =>
    simp only [Option.getD_none]
    split
    · rw [sz_sl]; omega
    · exact Nat.zero_le _
  | some x =>
    have := parts_size (List.mem_of_getLast? h)
    simp only [Option.getD_some]; omega
theorem joinP_size {p q : ByteArray} : (joinP p q).size ≤ p.size + q.size + 1 := by
  unfold joinP
  split
  · omega
  · split
    · omega
    · rw [sz_ofL, List.length_append, List.length_cons, ← sz (s := q)]
      have hl : (bl p).length = p.size := (sz (s := p)).symm
      split
      · rw [List.length_dropLast]; omega
      · omega
def goal (t : Tr) (cwd : Int) (p q : ByteArray) : ByteArray := if (t.walk cwd q true).2 = 0 ∧ (t.at (t.walk cwd q true).1).kind = 2 then joinP q (baseP p) else q
def IntoR (t : Tr) (cwd : Int) (nm : ByteArray) (l : List ByteArray) (t' : Tr) (s' : Int) : Prop := ∀ p q, l = [p, q] → BrR t cwd nm p (goal t cwd p q) t' s'
theorem d21 {nm : ByteArray} {l : List ByteArray} {d : D} (hT : T t) (hd : Sl l.length (rowsS l) d) (h2 : 2 ≤ l.length) (hln : l.length ≤ 1000) (hsz : ∀ x ∈ l, x.size ≤ 3000) (hw : st[w]? = some (.cells 0 true 57 (wc t cwd o a b s))) :
    CallW C TP 21 [.ptr w 0 0, .str nm, d] st fun _ st' => Wrk t cwd o a b s w st st' (IntoR t cwd nm l) := by
  refine call_th rfl rfl (body_h b21 (by show 3 ≤ 51; decide) ?_)
  have hdf : d = .fsl l.length (rowsS l) := by
    rcases hd with ⟨_, h, _⟩ | ⟨_, h, _⟩ | h
    · omega
    · omega
    · exact h
  have hwi : IntKind.i64.wrap ((l.length : Int) - 1) = ((l.length - 1 : Nat) : Int) := by rw [w64] <;> omega
  have hlt : l.length - 1 < l.length := by omega
  have hix : ∀ i : Nat, i < l.length → idxS 1 d (.int .i64 i) = some (.fptr (rowsS l) i) := fun i hi => by rw [hd.ix (by omega) (by omega), Int.toNat_natCast, Nat.mul_one]
  have hsz' : ∀ i (h : i < l.length), l[i].size ≤ 3000 := fun i h => hsz _ (List.getElem_mem h)
  generalize hq : l[l.length - 1] = q at *
  have hqs : q.size ≤ 3000 := by rw [← hq]; exact hsz' _ hlt
  have hlast : (rowsS l)[l.length - 1]? = some (.str q) := by rw [rowsS_get hlt, hq]
  simp -dsimp only [↓R0, RA, simprocAttr, hd.lnV, hwi, hix _ hlt, hlast, hCall_d (d40 hT (show q.size ≤ 1000000 by omega) hw)]
  apply hIf_d <;> intro h
  · have hsl : sliceL 1 d none (some (.int .i64 ((l.length - 1 : Nat) : Int))) = some (.fsl (l.length - 1) ((rowsS l).take (l.length - 1))) := by
      subst hdf
      have e : (0 : Int) ≤ ((l.length - 1 : Nat) : Int) ∧ ((l.length - 1 : Nat) : Int) ≤ (l.length : Nat) := by omega
      simp only [sliceL, bound]
      rw [if_pos e]
      simp
    simp -dsimp only [↓R0, RA, simprocAttr, decide_eq_true h, hsl]
    refine hLoop_i (fun i : Nat => l.length - i) (fun i fr' st' => fr' 0 = .ptr w 0 0 ∧ fr' 1 = .str nm ∧ fr' 7 = .str q ∧ fr' 26 = .fsl (l.length - 1) ((rowsS l).take (l.length - 1)) ∧ fr' 27 = .int .i64 ((l.length - 1 : Nat) : Int) ∧ fr' 28 = .int .i64 i ∧ i ≤ l.length - 1 ∧
      ∃ t1 s1, st'[w]? = some (.cells 0 true 57 (wc t1 cwd o a b s1)) ∧ Kept t cwd t1 ∧ (s1 = s ∨ s1 = 1) ∧ Lft w st st' ∧ (i = 0 → t1 = t ∧ s1 = s) ∧ (∀ h0 : 0 < l.length, i = 1 → BrR t cwd nm l[0] (joinP q (baseP l[0])) t1 s1)) 0 ⟨rfl, rfl, rfl, rfl, rfl, rfl, by omega, t, s, hw, .refl hT, .inl rfl, .refl, fun _ => ⟨rfl, rfl⟩, fun _ h => by cases h⟩ ?_
    rintro i fr st1 ⟨e0, e1, e7, e26, e27, e28, hi, t1, s1, w1, w2, w3, w4, w5, w6⟩
    simp -dsimp only [↓R0, RA, simprocAttr, e27, e28]
    apply hIf_d <;> intro hc
    · have hil : i < l.length := by omega
      have hi1 : i < l.length - 1 := by omega
      have hget : ((rowsS l).take (l.length - 1))[i]? = some (.str l[i]) := by rw [List.getElem?_take_of_lt hi1, rowsS_get hil]
      have hixi : idxS 1 (.fsl (l.length - 1) ((rowsS l).take (l.length - 1))) (.int .i64 i) = some (.fptr ((rowsS l).take (l.length - 1)) i) := by
        simp only [idxS, idx]
        rw [if_pos (by omega)]
        simp
      have hpi := hsz' i hil
      have hb := baseP_size (p := l[i])
      have hj := joinP_size (p := q) (q := baseP l[i])
      simp -dsimp only [↓R0, RA, simprocAttr, hc, e0, e1, e7, e26, e28, hixi, hget, hCall_g (s43 (show l[i].size ≤ 1000000000 by omega)), hCall_g (s42 (show q.size ≤ 1000000000 by omega) (show (baseP l[i]).size ≤ 1000000000 by omega))]
      refine hCall_c (d41 w2.1 (show l[i].size ≤ 1000000 by omega) (show (joinP q (baseP l[i])).size ≤ 1000000 by omega) w1) ?_
      rintro _ st2 ⟨t2, s2, v1, v2, v3, v4, v5⟩
      have hwi2 : IntKind.i64.wrap ((i : Int) + 1) = ((i + 1 : Nat) : Int) := by rw [w64] <;> omega
      simp -dsimp only [↓R0, RA, simprocAttr, e28, hwi2]
      refine ⟨i + 1, by omega, (by first | trivial | (simp -dsimp only [R1, simprocAttr, e0]; done) | rfl), (by first | trivial | (simp -dsimp only [R1, simprocAttr, e1]; done) | rfl), (by first | trivial | (simp -dsimp only [R1, simprocAttr, e7]; done) | rfl), (by first | trivial | (simp -dsimp only [R1, simprocAttr, e26]; done) | rfl), (by first | trivial | (simp -dsimp only [R1, simprocAttr, e27]; done) | rfl), (by first | trivial | (simp -dsimp only [R1, simprocAttr]; done) | rfl), by omega, t2, s2, v1, w2.trans v2, ?_, w4.trans v4, fun h => by omega, fun h0 h1 => ?_⟩
      · rcases v3 with v3 | v3
        · rw [v3]; exact w3
        · exact .inr v3
      · have : i = 0 := by omega
        subst this
        obtain ⟨rfl, rfl⟩ := w5 rfl
        exact v5
    · simp -dsimp only [↓R0, RA, simprocAttr, hc]
      refine ⟨t1, s1, w1, w2, w3, w4, ?_⟩
      rintro p' q' rfl
      simp only [List.length_cons, List.length_nil] at hc hi hq
      have hi1 : i = 1 := by omega
      have hqq : q' = q := by simpa using hq
      subst hqq
      unfold goal
      rw [if_pos h]
      exact w6 (by simp) hi1
  · simp -dsimp only [↓R0, RA, simprocAttr, decide_eq_false h]
    apply hIf_d <;> intro h3
    · have h0 : 0 < l.length := by omega
      have hp0 := hsz' 0 h0
      simp -dsimp only [↓R0, RA, simprocAttr, decide_eq_true h3, hix 0 h0, rowsS_get h0]
      have hix0 : idxS 1 d (.int .i64 0) = some (.fptr (rowsS l) 0) := hix 0 h0
      simp -dsimp only [↓R0, RA, simprocAttr, hix0, rowsS_get h0]
      refine hCall_c (d41 hT (show l[0].size ≤ 1000000 by omega) (show q.size ≤ 1000000 by omega) hw) ?_
      rintro _ st2 ⟨t2, s2, v1, v2, v3, v4, v5⟩
      simp -dsimp only [↓R0, RA, simprocAttr]
      refine ⟨t2, s2, v1, v2, v3, v4, ?_⟩
      rintro p' q' rfl
      have hqq : q' = q := by simpa using hq
      subst hqq
      unfold goal
      rw [if_neg h]
      exact v5
    · simp -dsimp only [↓R0, RA, simprocAttr, decide_eq_false h3, hw]
      refine ⟨t, 1, get_set_eq hw, .refl hT, .inr rfl, Lft.set, ?_⟩
      rintro p' q' rfl
      exact absurd (by rfl) h3
end
section
variable {t t' : Tr} {cwd s : Int} {o : ByteArray} {a b : D} {w : Nat} {st : Store}
def sumS (l : List ByteArray) : Nat := (l.map fun x => x.size + 1).sum
theorem partsA_sum : ∀ (l cur : List UInt8), sumS (partsA l cur) ≤ cur.length + l.length + 1
  | [], cur => by
    rw [partsA]
    split
    · simp [sumS]
    · simp [sumS, sz_ofL]
  | c :: l, cur => by
    rw [partsA]
    split
    · split
      · have := partsA_sum l []; simp at this ⊢; omega
      · have := partsA_sum l []
        simp only [sumS, List.map_cons, List.sum_cons, sz_ofL] at this ⊢
        simp only [List.length_nil, List.length_cons] at this ⊢
        omega
    · have := partsA_sum l (cur ++ [c]); simp at this ⊢; omega
theorem parts_sum {p : ByteArray} : sumS (parts p) ≤ p.size + 1 := by
  have := partsA_sum (bl p) []
  rw [sz (s := p)]; simpa [parts] using this
theorem sumS_drop {l : List ByteArray} {i : Nat} (h : i < l.length) : sumS (l.drop i) = l[i].size + 1 + sumS (l.drop (i + 1)) := by
  rw [List.drop_eq_getElem_cons h]
  simp only [sumS, List.map_cons, List.sum_cons]
theorem fpf67 {st : Store} {ds : List D} : fpC C st (some (.fn 67 [])) (some ds) = .free := fpfrz ⟨rfl, rfl⟩
theorem d68 {p : ByteArray} {st : Store} : Does1 C TP 68 [.str p] st (.fn 122 [.ptr st.length 0 0]) (st ++ [.cells 0 true 9 [.str p]]) := by
  refine does_of (call_th rfl rfl (body_h b68 (by show 1 ≤ 4; decide) ?_))
  simp -dsimp only [↓R0, RA, simprocAttr]
theorem w122 {lid pb : Nat} {p : ByteArray} {J J' : Store → Prop} (hp : p.size ≤ 900000) (hJ : ∀ st g, J st → J (st ++ g)) (hb : ∀ st, J st → st[pb]? = some (.cells 0 true 9 [.str p]) ∧ w < st.length ∧ lid < st.length)
    (hy : ∀ x st, x.size ≤ p.size + 2 → J st → YieldW C TP lid [.str x] st fun d st' => (∀ i, i < st.length → i ≠ w → i ≠ lid → st'[i]? = st[i]?) ∧ ((d = .bool true ∧ J st') ∨ (d = .bool false ∧ J' st'))) {st : Store} (hj : J st) :
    BodyW C TP 122 [.yld lid, .ptr pb 0 0] st fun _ st' => J st' ∨ J' st' := by
  refine body_h b122 (by show 2 ≤ 31; decide) ?_
  simp -dsimp only [↓R0, RA, simprocAttr, (hb st hj).1]
  refine hCall_c (s123 (p := p) (by omega)) ?_
  rintro _ st1 (⟨hnil, rfl, rfl⟩ | ⟨ver, hne, rfl, rfl⟩)
  · simp -dsimp only [↓R0, RA, simprocAttr, (hb st1 hj).1]
    refine hYield_c (hy p st1 (by omega) hj) ?_
    rintro d st' ⟨_, ⟨rfl, h⟩ | ⟨rfl, h⟩⟩
    · simp -dsimp only [↓R0, RA, simprocAttr]
      exact .inl h
    · simp -dsimp only [↓R0, RA, simprocAttr]
      exact .inr h
  · have hlen : ¬ (((parts p).length : Int) = 0) := by
      have : 0 < (parts p).length := List.length_pos_iff.2 hne
      omega
    have hj1 := hJ st [.cells ver true 9 ((parts p).map .str)] hj
    obtain ⟨_, hbw, hbl⟩ := hb st hj
    have hps := parts_sum (p := p)
    have hpl := parts_len (p := p)
    simp -dsimp only [↓R0, RA, simprocAttr, decide_eq_false hlen, (hb _ hj1).1, hCall_g s116]
    apply hIf_d <;> intro hw
    · simp -dsimp only [↓R0, RA, simprocAttr, decide_eq_true hw]
      refine hLoop_i (fun a : Nat × ByteArray => (parts p).length - a.1) (fun a fr' st' => fr' 0 = .yld lid ∧ fr' 17 = .osl st.length ver 1 0 (parts p).length ∧ fr' 18 = .int .i64 (parts p).length ∧ fr' 19 = .int .i64 a.1 ∧ fr' 4 = .str a.2 ∧ a.2.size + sumS ((parts p).drop a.1) ≤ p.size + 2 ∧ a.1 ≤ (parts p).length ∧ J st' ∧ st'[st.length]? = some (.cells ver true 9 ((parts p).map .str)) ∧ st.length < st'.length) (0, slS) ⟨rfl, rfl, rfl, rfl, rfl, ?_, Nat.zero_le _, hj1, by rw [app_get0]; rfl, by simp⟩ ?_
      · have e1 : slS.size = 1 := rfl
        have e2 : emS.size = 0 := rfl
        simp only [List.drop_zero, e1, e2]
        omega
      rintro ⟨i, at0⟩ fr2 st2 ⟨e0, e17, e18, e19, e4, hsum, hi, hj2, hl2, hln2⟩
      simp only [] at e19 e4 hsum hi
      simp -dsimp only [↓R0, RA, simprocAttr, e18, e19]
      apply hIf_d <;> intro hc
      · have hil : i < (parts p).length := by omega
        have hn := sumS_drop hil
        have hget : ((parts p).map D.str)[i]? = some (.str (parts p)[i]) := by rw [List.getElem?_map, List.getElem?_eq_getElem hil]; rfl
        have hix : idxS 1 (.osl st.length ver 1 0 (parts p).length) (.int .i64 i) = some (.ptr st.length ver i) := by
          simp only [idxS, idx]
          rw [if_pos (by omega)]
          simp
        have hjs := joinP_size (p := at0) (q := (parts p)[i])
        simp -dsimp only [↓R0, RA, simprocAttr, hc, e0, e4, e17, e19, hix, hl2, hget, hCall_g (s42 (show at0.size ≤ 1000000000 by omega) (show (parts p)[i].size ≤ 1000000000 by omega))]
        refine hYield_c (hy (joinP at0 (parts p)[i]) st2 (by omega) hj2) ?_
        obtain ⟨hb1, hb2, hb3⟩ := hb st2 hj2
        rintro d st3 ⟨hkeep, ⟨rfl, h⟩ | ⟨rfl, h⟩⟩
        · have hl3 : st3[st.length]? = some (.cells ver true 9 ((parts p).map .str)) := by rw [hkeep _ hln2 (by omega) (by omega)]; exact hl2
          have hwi : IntKind.i64.wrap ((i : Int) + 1) = ((i + 1 : Nat) : Int) := by rw [w64] <;> omega
          simp -dsimp only [↓R0, RA, simprocAttr, un, e19, hwi]
          exact ⟨(i + 1, joinP at0 (parts p)[i]), by simp only []; omega, (by first | trivial | (simp -dsimp only [R1, simprocAttr, e0]; done) | rfl), (by first | trivial | (simp -dsimp only [R1, simprocAttr, e17]; done) | rfl), (by first | trivial | (simp -dsimp only [R1, simprocAttr, e18]; done) | rfl), (by first | trivial | (simp -dsimp only [R1, simprocAttr]; done) | rfl), (by first | trivial | (simp -dsimp only [R1, simprocAttr]; done) | rfl), by simp only []; omega, by simp only []; omega, h, hl3, get_lt hl3⟩
        · simp -dsimp only [↓R0, RA, simprocAttr, un]
          exact .inr h
      · simp -dsimp only [↓R0, RA, simprocAttr, hc]
        exact .inl hj2
    · simp -dsimp only [↓R0, RA, simprocAttr, decide_eq_false hw]
      refine hLoop_i (fun a : Nat × ByteArray => (parts p).length - a.1) (fun a fr' st' => fr' 0 = .yld lid ∧ fr' 17 = .osl st.length ver 1 0 (parts p).length ∧ fr' 18 = .int .i64 (parts p).length ∧ fr' 19 = .int .i64 a.1 ∧ fr' 4 = .str a.2 ∧ a.2.size + sumS ((parts p).drop a.1) ≤ p.size + 2 ∧ a.1 ≤ (parts p).length ∧ J st' ∧ st'[st.length]? = some (.cells ver true 9 ((parts p).map .str)) ∧ st.length < st'.length) (0, emS) ⟨rfl, rfl, rfl, rfl, rfl, ?_, Nat.zero_le _, hj1, by rw [app_get0]; rfl, by simp⟩ ?_
      · have e1 : slS.size = 1 := rfl
        have e2 : emS.size = 0 := rfl
        simp only [List.drop_zero, e1, e2]
        omega
      rintro ⟨i, at0⟩ fr2 st2 ⟨e0, e17, e18, e19, e4, hsum, hi, hj2, hl2, hln2⟩
      simp only [] at e19 e4 hsum hi
      simp -dsimp only [↓R0, RA, simprocAttr, e18, e19]
      apply hIf_d <;> intro hc
      · have hil : i < (parts p).length := by omega
        have hn := sumS_drop hil
        have hget : ((parts p).map D.str)[i]? = some (.str (parts p)[i]) := by rw [List.getElem?_map, List.getElem?_eq_getElem hil]; rfl
        have hix : idxS 1 (.osl st.length ver 1 0 (parts p).length) (.int .i64 i) = some (.ptr st.length ver i) := by
          simp only [idxS, idx]
          rw [if_pos (by omega)]
          simp
        have hjs := joinP_size (p := at0) (q := (parts p)[i])
        simp -dsimp only [↓R0, RA, simprocAttr, hc, e0, e4, e17, e19, hix, hl2, hget, hCall_g (s42 (show at0.size ≤ 1000000000 by omega) (show (parts p)[i].size ≤ 1000000000 by omega))]
        refine hYield_c (hy (joinP at0 (parts p)[i]) st2 (by omega) hj2) ?_
        obtain ⟨hb1, hb2, hb3⟩ := hb st2 hj2
        rintro d st3 ⟨hkeep, ⟨rfl, h⟩ | ⟨rfl, h⟩⟩
        · have hl3 : st3[st.length]? = some (.cells ver true 9 ((parts p).map .str)) := by rw [hkeep _ hln2 (by omega) (by omega)]; exact hl2
          have hwi : IntKind.i64.wrap ((i : Int) + 1) = ((i + 1 : Nat) : Int) := by rw [w64] <;> omega
          simp -dsimp only [↓R0, RA, simprocAttr, un, e19, hwi]
          exact ⟨(i + 1, joinP at0 (parts p)[i]), by simp only []; omega, (by first | trivial | (simp -dsimp only [R1, simprocAttr, e0]; done) | rfl), (by first | trivial | (simp -dsimp only [R1, simprocAttr, e17]; done) | rfl), (by first | trivial | (simp -dsimp only [R1, simprocAttr, e18]; done) | rfl), (by first | trivial | (simp -dsimp only [R1, simprocAttr]; done) | rfl), (by first | trivial | (simp -dsimp only [R1, simprocAttr]; done) | rfl), by simp only []; omega, by simp only []; omega, h, hl3, get_lt hl3⟩
        · simp -dsimp only [↓R0, RA, simprocAttr, un]
          exact .inr h
      · simp -dsimp only [↓R0, RA, simprocAttr, hc]
        exact .inl hj2
def MkS (A B : Code) (w : Nat) (t : Tr) (cwd : Int) (o : ByteArray) (a b : D) (s : Int) (p : ByteArray) (st : Store) (ls : LoopState) (q : Option Code) (st' : Store) : Prop :=
  ∃ fr t1 s1, fr 2 = .ptr st.length 0 0 ∧ st'[st.length + 2]? = some (.loop ls q 44 fr 48 #[25] A B) ∧ st'[w]? = some (.cells 0 true 57 (wc t1 cwd o a b s1)) ∧ Kept t cwd t1 ∧ (s1 = s ∨ s1 = 1) ∧
    st.length + 3 ≤ st'.length ∧ ∀ i, i < st.length + 2 → i ≠ w → st'[i]? = (st ++ [.cells 0 true 51 [.ptr w 0 0], .cells 0 true 9 [.str p]])[i]?
theorem MkS.app {A B : Code} {p : ByteArray} {ls : LoopState} {q : Option Code} {st' g : Store} (h : MkS A B w t cwd o a b s p st ls q st') : MkS A B w t cwd o a b s p st ls q (st' ++ g) := by
  obtain ⟨fr, t1, s1, h1, h2, h3, h4, h5, h6, h7⟩ := h
  exact ⟨fr, t1, s1, h1, get_app h2, get_app h3, h4, h5, by simp; omega, fun i hi hw => by rw [List.getElem?_append_left (by omega)]; exact h7 i hi hw⟩
theorem y44 {x p : ByteArray} {st' : Store} (hwl : w < st.length) (hx : x.size ≤ 1000000) (h : MkS (cAt (cOf TP 44) [1, 1, 1, 0, 0]) (cAt (cOf TP 44) [1, 1, 1, 0, 1]) w t cwd o a b s p st .ready none st') :
    YieldW C TP (st.length + 2) [.str x] st' fun d st2 => (∀ i, i < st'.length → i ≠ w → i ≠ st.length + 2 → st2[i]? = st'[i]?) ∧
      ((d = .bool true ∧ MkS (cAt (cOf TP 44) [1, 1, 1, 0, 0]) (cAt (cOf TP 44) [1, 1, 1, 0, 1]) w t cwd o a b s p st .ready none st2) ∨
       (d = .bool false ∧ MkS (cAt (cOf TP 44) [1, 1, 1, 0, 0]) (cAt (cOf TP 44) [1, 1, 1, 0, 1]) w t cwd o a b s p st .done (some .ret) st2)) := by
  obtain ⟨fr, t1, s1, h1, h2, h3, h4, h5, h6, h7⟩ := h
  refine yield_h h2 (fr1 := upd fr 25 (.str x)) rfl r44a r44b ?_
  simp -dsimp only [↓R0, RA, simprocAttr]
  refine ⟨trivial, trivial, ?_⟩
  refine regX_h x44_5 c44_5 ?_
  generalize hB0 : Blk.loop .busy none 44 fr 48 #[25] (cAt (cOf TP 44) [1, 1, 1, 0, 0]) (cAt (cOf TP 44) [1, 1, 1, 0, 1]) = B0
  have hbox : st'[st.length]? = some (.cells 0 true 51 [.ptr w 0 0]) := by rw [h7 _ (by omega) (by omega)]; exact get_new
  have g0 : (st'.set (st.length + 2) B0)[st.length]? = some (.cells 0 true 51 [.ptr w 0 0]) := by rw [get_set_ne (by omega)]; exact hbox
  have gw : (st'.set (st.length + 2) B0)[w]? = some (.cells 0 true 57 (wc t1 cwd o a b s1)) := by rw [get_set_ne (by omega)]; exact h3
  simp -dsimp only [↓R0, RA, simprocAttr, RQ, ↓R5, R6, h1, g0, hCall_d (d40 h4.1 hx gw), un]
  have hlft : ∀ (st2 : Store), Lft w (st'.set (st.length + 2) B0) st2 → ∀ (c : Blk) i, i < st'.length → i ≠ w → i ≠ st.length + 2 → (st2.set (st.length + 2) c)[i]? = st'[i]? := by
    intro st2 hl c i hi hiw hil
    rw [get_set_ne hil, hl.2 i (by simpa using hi) hiw, get_set_ne hil]
  have hfin : ∀ (st2 : Store) (t2 : Tr) (s2 : Int) (ls : LoopState) (q : Option Code), st2[w]? = some (.cells 0 true 57 (wc t2 cwd o a b s2)) → Kept t1 cwd t2 → (s2 = s1 ∨ s2 = 1) → Lft w (st'.set (st.length + 2) B0) st2 →
      MkS (cAt (cOf TP 44) [1, 1, 1, 0, 0]) (cAt (cOf TP 44) [1, 1, 1, 0, 1]) w t cwd o a b s p st ls q (st2.set (st.length + 2) (.loop ls q 44 fr 48 #[25] (cAt (cOf TP 44) [1, 1, 1, 0, 0]) (cAt (cOf TP 44) [1, 1, 1, 0, 1]))) := by
    intro st2 t2 s2 ls q e1 e2 e3 e4
    have hl2 : st'.length ≤ st2.length := by have := e4.1; simpa using this
    refine ⟨fr, t2, s2, h1, ?_, by rw [get_set_ne (by omega)]; exact e1, h4.trans e2, ?_, by simp; omega, fun i hi hiw => ?_⟩
    · rw [List.getElem?_set_self (by omega)]
    · rcases e3 with e3 | e3
      · rw [e3]; exact h5
      · exact .inr e3
    · rw [hlft st2 e4 _ i (by omega) hiw (by omega)]
      exact h7 i hi hiw
  have hB : ∀ st2, Lft w (st'.set (st.length + 2) B0) st2 → st2[st.length + 2]? = some B0 := fun st2 hl => hl.get (get_set_eq h2) (by omega)
  apply hIf_d <;> intro hd
  · simp -dsimp only [↓R0, RA, simprocAttr, RQ, ↓R5, R6, decide_eq_true hd]
    refine ⟨by simp [fpOk], ?_⟩
    (try simp -dsimp only [↓R0, RA, simprocAttr, RQ, ↓R5, R6])
    exact ⟨get_set_eq h2, hlft _ .refl _, .inl ⟨by first | trivial | rfl, hfin _ t1 s1 .ready none gw (.refl h4.1) (.inl rfl) .refl⟩⟩
  · rcases s67k (cwd := cwd) (p := x) (m := 7) h4.1 hx (by decide) with ⟨e, he, hg⟩ | ⟨t2, k, hg, hk⟩
    · simp -dsimp only [↓R0, RA, simprocAttr, RQ, ↓R5, R6, decide_eq_false hd, h1, g0, gw, ld24, hCall_g hg]
      refine hCall_c (d61e (t' := t1) he gw) ?_
      rintro _ st2 ⟨rfl, r1, r2⟩
      simp -dsimp only [↓R0, RA, simprocAttr, RQ, ↓R5, R6, un, decide_eq_false hd]
      refine ⟨by simp [fpOk, fpf67, h1, fl_p], ?_⟩
      (try simp -dsimp only [↓R0, RA, simprocAttr, RQ, ↓R5, R6])
      exact ⟨hB _ r2, hlft _ r2 _, .inr ⟨by first | trivial | rfl, hfin _ t1 1 .done (some .ret) r1 (.refl h4.1) (.inr rfl) r2⟩⟩
    · simp -dsimp only [↓R0, RA, simprocAttr, RQ, ↓R5, R6, decide_eq_false hd, h1, g0, gw, ld24, hCall_g hg]
      refine hCall_c (d61 (t' := t2) gw) ?_
      rintro _ st2 ⟨rfl, r1, r2⟩
      simp -dsimp only [↓R0, RA, simprocAttr, RQ, ↓R5, R6, un, decide_eq_false hd]
      refine ⟨by simp [fpOk, fpf67, h1, fl_p], ?_⟩
      (try simp -dsimp only [↓R0, RA, simprocAttr, RQ, ↓R5, R6])
      exact ⟨hB _ r2, hlft _ r2 _, .inl ⟨by first | trivial | rfl, hfin _ t2 s1 .ready none r1 hk (.inl rfl) r2⟩⟩
theorem app3 {a b c : Blk} {i : Nat} (hi : i < st.length + 2) : (st ++ [a, b, c])[i]? = (st ++ [a, b])[i]? := by
  have : st ++ [a, b, c] = (st ++ [a, b]) ++ [c] := by simp
  rw [this, List.getElem?_append_left (by simp; omega)]
theorem d44 {p : ByteArray} (hT : T t) (hp : p.size ≤ 900000) (hw : st[w]? = some (.cells 0 true 57 (wc t cwd o a b s))) :
    CallW C TP 44 [.ptr w 0 0, .str p] st fun _ st' => Wrk t cwd o a b s w st st' fun _ _ => True := by
  refine call_th rfl rfl (body_h b44 (by show 2 ≤ 48; decide) ?_)
  have hwl := get_lt hw
  simp -dsimp only [↓R0, RA, simprocAttr, RQ, hCall_d (d18 (get_app hw)), un]
  refine hIf_b (fun hb => ?_) (fun hb => ?_)
  rotate_left
  · simp -dsimp only [↓R0, RA, simprocAttr, RQ, hb, un]
    refine regX_h x44_2 c44_2 ?_
    rcases s67k (cwd := cwd) (p := p) (m := 7) hT (by omega) (by decide) with ⟨e, he, hg⟩ | ⟨t2, k, hg, hk⟩
    · simp -dsimp only [↓R0, RA, simprocAttr, RQ, ↓R5, R6, get_app hw, app_get0, ld24, hCall_g hg]
      refine hCall_c (d61e (t' := t) he (get_app hw)) ?_
      rintro _ st2 ⟨rfl, r1, r2⟩
      simp -dsimp only [↓R0, RA, simprocAttr, RQ, ↓R5, R6]
      refine ⟨by simp [fpOk, fpf67, fl_p], ?_⟩
      (try simp -dsimp only [↓R0, RA, simprocAttr, RQ, ↓R5, R6])
      exact ⟨t, 1, r1, .refl hT, .inr rfl, Lft.app.trans r2, trivial⟩
    · simp -dsimp only [↓R0, RA, simprocAttr, RQ, ↓R5, R6, get_app hw, app_get0, ld24, hCall_g hg]
      refine hCall_c (d61 (t' := t2) (get_app hw)) ?_
      rintro _ st2 ⟨rfl, r1, r2⟩
      simp -dsimp only [↓R0, RA, simprocAttr, RQ, ↓R5, R6]
      refine ⟨by simp [fpOk, fpf67, fl_p], ?_⟩
      (try simp -dsimp only [↓R0, RA, simprocAttr, RQ, ↓R5, R6])
      exact ⟨t2, s, r1, hk, .inl rfl, Lft.app.trans r2, trivial⟩
  · simp -dsimp only [↓R0, RA, simprocAttr, RQ, hb, un, hCall_d d68]
    have hlen : (st ++ [Blk.cells 0 true 51 [D.ptr w 0 0]] ++ [Blk.cells 0 true 9 [D.str p]]).length = st.length + 2 := by simp
    refine hBody_c (w122 (w := w) (lid := st.length + 2) (pb := st.length + 1) (p := p) (J := MkS (cAt (cOf TP 44) [1, 1, 1, 0, 0]) (cAt (cOf TP 44) [1, 1, 1, 0, 1]) w t cwd o a b s p st .ready none)
      (J' := MkS (cAt (cOf TP 44) [1, 1, 1, 0, 0]) (cAt (cOf TP 44) [1, 1, 1, 0, 1]) w t cwd o a b s p st .done (some .ret)) hp (fun _ _ h => h.app) ?_ ?_ ?_) ?_
    · rintro st' ⟨fr, t1, s1, h1, h2, h3, h4, h5, h6, h7⟩
      refine ⟨?_, by omega, by omega⟩
      rw [h7 _ (by omega) (by omega), app_get]; rfl
    · intro x st' hx hj
      exact y44 hwl (by omega) hj
    · refine ⟨_, t, s, ?_, by rw [app_get]; rfl, get_app hw, .refl hT, .inl rfl, by simp, fun i hi hiw => ?_⟩
      · exact (by first | trivial | (simp -dsimp only [R1, simprocAttr]; done) | rfl)
      · exact app3 hi
    · rintro _ st1 (⟨fr, t1, s1, h1, h2, h3, h4, h5, h6, h7⟩ | ⟨fr, t1, s1, h1, h2, h3, h4, h5, h6, h7⟩)
      · rw [hlen]
        simp -dsimp only [↓R0, RA, simprocAttr, pop_r h2]
        refine ⟨t1, s1, by rw [get_set_ne (by omega)]; exact h3, h4, h5, ⟨by simp; omega, fun i hi hiw => ?_⟩, trivial⟩
        rw [get_set_ne (by omega), h7 i (by omega) hiw, List.getElem?_append_left hi]
      · rw [hlen]
        simp -dsimp only [↓R0, RA, simprocAttr, pop_d h2]
        refine ⟨t1, s1, by rw [get_set_ne (by omega)]; exact h3, h4, h5, ⟨by simp; omega, fun i hi hiw => ?_⟩, trivial⟩
        rw [get_set_ne (by omega), h7 i (by omega) hiw, List.getElem?_append_left hi]
end
section
variable {t t' : Tr} {cwd s : Int} {o : ByteArray} {a b : D} {w K : Nat} {st : Store}
def Bld (K : Nat) (st : Store) (w : Nat) (a b : D) (x : List UInt8) : Prop :=
  (a = .nilp ∨ a = .ptr w 0 5) ∧ ((b = .nils ∧ x = []) ∨ ∃ id ver, b = .osl id ver 1 0 x.length ∧ K ≤ id ∧ x ≠ [] ∧ st[id]? = some (.cells ver true 5 (ofBytes x)))
def Lf (w K : Nat) (st st' : Store) : Prop := st.length ≤ st'.length ∧ ∀ i, i < K → i ≠ w → st'[i]? = st[i]?
theorem Lf.refl : Lf w K st st := ⟨Nat.le_refl _, fun _ _ _ => rfl⟩
theorem Lf.trans {st1 st2 : Store} (h : Lf w K st st1) (h' : Lf w K st1 st2) : Lf w K st st2 := ⟨Nat.le_trans h.1 h'.1, fun i hi hw => (h'.2 i hi hw).trans (h.2 i hi hw)⟩
theorem Lf.app {g : Store} (hK : K ≤ st.length) : Lf w K st (st ++ g) := ⟨by simp, fun i hi _ => List.getElem?_append_left (by omega)⟩
theorem Lf.set {b : Blk} : Lf w K st (st.set w b) := ⟨by simp, fun i hi hw => get_set_ne hw⟩
theorem Bld.app {x : List UInt8} {g : Store} (h : Bld K st w a b x) : Bld K (st ++ g) w a b x := by
  obtain ⟨h1, h2 | ⟨id, ver, h2, h3, h4, h5⟩⟩ := h
  · exact ⟨h1, .inl h2⟩
  · exact ⟨h1, .inr ⟨id, ver, h2, h3, h4, get_app h5⟩⟩
theorem Bld.set {x : List UInt8} {c : Blk} (h : Bld K st w a b x) (hw : w < K) : Bld K (st.set w c) w a b x := by
  obtain ⟨h1, h2 | ⟨id, ver, h2, h3, h4, h5⟩⟩ := h
  · exact ⟨h1, .inl h2⟩
  · exact ⟨h1, .inr ⟨id, ver, h2, h3, h4, by rw [get_set_ne (by omega)]; exact h5⟩⟩
theorem bl_toList {y : ByteArray} : y.data.toList = bl y := rfl
theorem d157 (hw : st[w]? = some (.cells 0 true 57 (wc t cwd o a b s))) (ha : a = .nilp ∨ a = .ptr w 0 5) : Does1 C TP 157 [.ptr w 0 5] st .undef (st.set w (.cells 0 true 57 (wc t cwd o (.ptr w 0 5) b s))) := by
  refine call_ex (C := C) (P := TP) (f := 157) (g := x157) rfl ?_
  rcases ha with rfl | rfl
  · simp only [x157, hw, wc, List.length_cons, List.length_nil, List.getElem?_cons_succ, List.getElem?_cons_zero, List.set_cons_succ, List.set_cons_zero, Nat.reduceAdd, if_true]
  · have e := set_same hw
    simp only [x157, hw, wc, List.length_cons, List.length_nil, List.getElem?_cons_succ, List.getElem?_cons_zero, Nat.reduceAdd, if_true]
    simp only [wc] at e
    rw [e]
theorem d127 {x : List UInt8} {y : ByteArray} (hw : st[w]? = some (.cells 0 true 57 (wc t cwd o a b s))) (hB : Bld K st w a b x) (hK : w < K ∧ K ≤ st.length) (hy : 1 ≤ y.size) (hl : x.length + y.size ≤ 1000000000) :
    CallW C TP 127 [.ptr w 0 5, .str y] st fun _ st' => ∃ b', st'[w]? = some (.cells 0 true 57 (wc t cwd o (.ptr w 0 5) b' s)) ∧ Bld K st' w (.ptr w 0 5) b' (x ++ bl y) ∧ Lf w K st st' := by
  have h1 := hB.1
  have hx := d157 hw h1
  have hB0 := hB.set (c := .cells 0 true 57 (wc t cwd o (.ptr w 0 5) b s)) hK.1
  have hw0 : (st.set w (.cells 0 true 57 (wc t cwd o (.ptr w 0 5) b s)))[w]? = some (.cells 0 true 57 (wc t cwd o (.ptr w 0 5) b s)) := get_set_eq hw
  have hL0 : Lf w K st (st.set w (.cells 0 true 57 (wc t cwd o (.ptr w 0 5) b s))) := Lf.set
  have hK0 : w < K ∧ K ≤ (st.set w (.cells 0 true 57 (wc t cwd o (.ptr w 0 5) b s))).length := by simp only [List.length_set]; exact hK
  refine call_th rfl rfl (body_h b127 (by show 2 ≤ 19; decide) ?_)
  have hni : ∀ fr : Fr, rd fr (.const .nilIface) = some .nili := fun _ => rfl
  simp -dsimp only [↓R0, RA, simprocAttr, hCall_d hx, hni]
  generalize st.set w (.cells 0 true 57 (wc t cwd o (.ptr w 0 5) b s)) = st0 at *
  obtain ⟨_, h2⟩ := hB0
  have hlen : (ofBytes (bl y)).length = y.size := by rw [ofBytes_len, sz]
  have hyl : (bl y).length = y.size := (sz (s := y)).symm
  have hne : bl y ≠ [] := fun e => by rw [e] at hyl; simp at hyl; omega
  rcases h2 with ⟨rfl, rfl⟩ | ⟨id, ver, rfl, h3, h4, h5⟩
  · have e1 : appendM st0 5 1 1 .nils (.str y) = some (.osl st0.length 0 1 0 y.size, st0 ++ [.cells 0 true 5 (ofBytes (bl y))]) := by
      simp only [appendM, srcCells, lenOf, if_true, bl_toList]
      rw [if_neg (by omega), if_pos (by omega)]
    simp -dsimp only [↓R0, RA, simprocAttr, hw0, e1, get_app hw0, hni]
    exact ⟨_, get_set_eq (get_app hw0), ⟨.inr rfl, .inr ⟨st0.length, 0, by simp [hyl], hK0.2, by simpa using hne, by rw [get_set_ne (by omega), app_get0]; rfl⟩⟩, hL0.trans ((Lf.app hK0.2).trans Lf.set)⟩
  · have hid := get_lt h5
    have hxl : (ofBytes x).length = x.length := ofBytes_len
    have e1 : appendM st0 5 1 1 (.osl id ver 1 0 x.length) (.str y) = some (.osl id (ver + 1) 1 0 (x.length + y.size), st0.set id (.cells (ver + 1) true 5 (ofBytes x ++ ofBytes (bl y)))) := by
      simp only [appendM, srcCells, lenOf, if_true, bl_toList, h5, List.drop_zero]
      rw [if_neg (by omega), if_pos (by simp only [true_and, Nat.mul_one, Nat.zero_add, hxl]; omega)]
      simp [List.take_of_length_le (Nat.le_of_eq hxl)]
    have hwi : (st0.set id (Blk.cells (ver + 1) true 5 (ofBytes x ++ ofBytes (bl y))))[w]? = some (.cells 0 true 57 (wc t cwd o (.ptr w 0 5) (.osl id ver 1 0 x.length) s)) := by rw [get_set_ne (by omega)]; exact hw0
    simp -dsimp only [↓R0, RA, simprocAttr, hw0, e1, hwi, hni]
    exact ⟨_, get_set_eq hwi, ⟨.inr rfl, .inr ⟨id, ver + 1, by simp [hyl], h3, by simp [h4], by rw [get_set_ne (by omega), get_set_eq h5]; simp [ofBytes]⟩⟩, hL0.trans ⟨by simp, fun i hi hw' => by rw [get_set_ne hw', get_set_ne (by omega)]⟩⟩
def Lin (K : Nat) (t : Tr) (cwd : Int) (o : ByteArray) (s : Int) (w : Nat) (st st' : Store) (x : List UInt8) : Prop := ∃ a b, st'[w]? = some (.cells 0 true 57 (wc t cwd o a b s)) ∧ Bld K st' w a b x ∧ Lf w K st st'
theorem d78 {x : List UInt8} {p : ByteArray} (hw : st[w]? = some (.cells 0 true 57 (wc t cwd o a b s))) (hB : Bld K st w a b x) (hK : w < K ∧ K ≤ st.length) (hl : x.length + p.size ≤ 100000000) :
    CallW C TP 78 [.ptr w 0 0, .str p] st fun _ st' => Lin K t cwd o s w st st' (x ++ bl p ++ [10]) := by
  refine call_th rfl rfl (body_h b78 (by show 2 ≤ 10; decide) ?_)
  have hadd : binM 0 .add (.str p) (.str ⟨#[10]⟩) = some (.str (p ++ ⟨#[10]⟩)) := s_add (by show p.size + 1 ≤ _; omega)
  have hsz : (p ++ (⟨#[10]⟩ : ByteArray)).size = p.size + 1 := by rw [ByteArray.size_append]; rfl
  simp -dsimp only [↓R0, RA, simprocAttr, hadd]
  refine hCall_c (d127 (y := p ++ ⟨#[10]⟩) hw hB hK (by omega) (by omega)) ?_
  rintro _ st' ⟨b', e2, e3, e4⟩
  simp -dsimp only [↓R0, RA, simprocAttr]
  refine ⟨_, b', e2, ?_, e4⟩
  rw [bl_app] at e3
  rw [List.append_assoc]; exact e3
def LsR (K : Nat) (t : Tr) (cwd : Int) (o : ByteArray) (s : Int) (p : ByteArray) (w : Nat) (st st' : Store) (x : List UInt8) : Prop :=
  ∃ a b s' x', st'[w]? = some (.cells 0 true 57 (wc t cwd o a b s')) ∧ Bld K st' w a b x' ∧ (s' = s ∨ s' = 1) ∧ Lf w K st st' ∧ x'.length ≤ x.length + 200000 ∧
    ((t.walk cwd p true).2 = 0 → (t.at (t.walk cwd p true).1).kind ≠ 2 → s' = s ∧ x' = x ++ bl p ++ [10])
theorem d49 {x : List UInt8} {p : ByteArray} {hd : Bool} (hT : T t) (hp : p.size ≤ 3000) (hw : st[w]? = some (.cells 0 true 57 (wc t cwd o a b s))) (hB : Bld K st w a b x) (hK : w < K ∧ K ≤ st.length) (hl : x.length ≤ 10000000) :
    CallW C TP 49 [.ptr w 0 0, .str p, .bool hd] st fun _ st' => LsR K t cwd o s p w st st' x := by
  refine call_th rfl rfl (body_h b49 (by show 3 ≤ 83; decide) ?_)
  simp -dsimp only [↓R0, RA, simprocAttr, hCall_d (d58 hT (show p.size ≤ 1000000 by omega) hw), un]
  apply hIf_d <;> intro h1
  rotate_left
  · simp -dsimp only [↓R0, RA, simprocAttr, decide_eq_false h1, hw]
    exact ⟨a, b, 1, x, get_set_eq hw, hB.set hK.1, .inr rfl, Lf.set, by omega, fun h => absurd h h1⟩
  have hlv := hT.walk_live h1
  simp -dsimp only [↓R0, RA, simprocAttr, decide_eq_true h1, hw, ld24, Tr.ixh hT.ok hlv.1, Tr.c0 hlv.1]
  apply hIf_d <;> intro h2
  rotate_left
  · simp -dsimp only [↓R0, RA, simprocAttr, decide_eq_false h2]
    refine hCall_c (d78 hw hB hK (by omega)) ?_
    rintro _ st1 ⟨a1, b1, g1, g2, g3⟩
    simp -dsimp only [↓R0, RA, simprocAttr]
    exact ⟨a1, b1, s, _, g1, g2, .inl rfl, g3, by simp; rw [← sz]; omega, fun _ _ => ⟨rfl, rfl⟩⟩
  have hno : ∀ {P : Prop}, ((t.walk cwd p true).2 = 0 → (t.at (t.walk cwd p true).1).kind ≠ 2 → P) := fun _ h => absurd h2 h
  simp -dsimp only [↓R0, RA, simprocAttr, decide_eq_true h2]
  have hkd := hT.kds hlv.1
  have hnames := (hT.fit.dirs _ ⟨hlv.1, h2⟩).2.2.name
  have hkl := hT.kids_le hlv.1
  refine hIf_b (fun h3 => ?_) (fun h3 => ?_)
  · have hadd : binM 0 .add (.str p) (.str ⟨#[58]⟩) = some (.str (p ++ ⟨#[58]⟩)) := s_add (by show p.size + 1 ≤ _; omega)
    have hps : (p ++ (⟨#[58]⟩ : ByteArray)).size = p.size + 1 := by rw [ByteArray.size_append]; rfl
    simp -dsimp only [↓R0, RA, simprocAttr, h3, hadd]
    refine hCall_c (d78 hw hB hK (by omega)) ?_
    rintro _ st1 ⟨a1, b1, g1, g2, g3⟩
    have hx1 : (x ++ bl (p ++ (⟨#[58]⟩ : ByteArray)) ++ [10]).length ≤ x.length + 3002 := by
      simp only [List.length_append, List.length_cons, List.length_nil, ← sz, hps]; omega
    generalize x ++ bl (p ++ (⟨#[58]⟩ : ByteArray)) ++ [10] = x1 at *
    have kx := hx1
    have kf : Lf w K st st1 := g3
    simp -dsimp only [↓R0, RA, simprocAttr, g1, ld24, un, hCall_g (s79 hT.ok hT.modes (show (0 : Int) ≤ 4 ∧ (4 : Int) ≤ 7 by decide))]
    apply hIf_d <;> intro h4
    rotate_left
    · simp -dsimp only [↓R0, RA, simprocAttr, decide_eq_false h4, un, g1]
      exact ⟨a1, b1, 1, x1, get_set_eq g1, Bld.set g2 hK.1, .inr rfl, kf.trans Lf.set, by omega, hno⟩
    simp -dsimp only [↓R0, RA, simprocAttr, decide_eq_true h4, un, hCall_d (d18 g1)]
    refine hIf_b (fun h5 => ?_) (fun h5 => ?_)
    · simp -dsimp only [↓R0, RA, simprocAttr, h5]
      refine hCall_c (d78 (p := ⟨#[46, 10, 46, 46]⟩) g1 g2 ⟨hK.1, Nat.le_trans hK.2 kf.1⟩ (by show _ + 4 ≤ _; omega)) ?_
      rintro _ st2 ⟨a2, b2, f1, f2, f3⟩
      have hx2 : (x1 ++ bl (⟨#[46, 10, 46, 46]⟩ : ByteArray) ++ [10]).length ≤ x.length + 3007 := by
        simp only [List.length_append, List.length_cons, List.length_nil, ← sz]
        have : (⟨#[46, 10, 46, 46]⟩ : ByteArray).size = 4 := rfl
        omega
      generalize x1 ++ bl (⟨#[46, 10, 46, 46]⟩ : ByteArray) ++ [10] = x2 at *
      simp -dsimp only [↓R0, RA, simprocAttr, f1, ld24, Tr.ixh hT.ok hlv.1, Tr.c4 hlv.1, hkd.lnV]
      refine hLoop_i (fun i : Nat => (t.at (t.walk cwd p true).1).kids.length - i) (fun i fr' st' => fr' 0 = .ptr w 0 0 ∧ fr' 8 = .bool true ∧ fr' 65 = (t.at (t.walk cwd p true).1).kd ∧ fr' 66 = .int .i64 (t.at (t.walk cwd p true).1).kids.length ∧ fr' 67 = .int .i64 i ∧ i ≤ (t.at (t.walk cwd p true).1).kids.length ∧
        ∃ a' b' x', st'[w]? = some (.cells 0 true 57 (wc t cwd o a' b' s)) ∧ Bld K st' w a' b' x' ∧ Lf w K st st' ∧ x'.length ≤ x.length + 3007 + i * 65) 0 ⟨rfl, (by first | trivial | (simp -dsimp only [R1, simprocAttr, h5]; done) | rfl), rfl, rfl, rfl, Nat.zero_le _, a2, b2, x2, f1, f2, (kf.trans f3), by rw [Nat.zero_mul, Nat.add_zero]; exact hx2⟩ ?_
      rintro i fr st3 ⟨e0, e8, e65, e66, e67, hi, a3, b3, x3, q1, q2, q3, q4⟩
      simp -dsimp only [↓R0, RA, simprocAttr, e66, e67]
      apply hIf_d <;> intro hc
      · have hil : i < (t.at (t.walk cwd p true).1).kids.length := by omega
        have c1 : (0 : Int) ≤ i := by omega
        have c2 : (i : Int) < ((t.at (t.walk cwd p true).1).kids.length : Nat) := by omega
        have hrow := rowsE_take (l := (t.at (t.walk cwd p true).1).kids) (j := i) (List.getElem?_eq_getElem hil)
        have hle : (i * 2 + 2 ≤ (rowsE (t.at (t.walk cwd p true).1).kids).length) = True := by rw [rowsE_length]; simp; omega
        have hix : idxS 2 (t.at (t.walk cwd p true).1).kd (.int .i64 i) = some (.fptr (rowsE (t.at (t.walk cwd p true).1).kids) (i * 2)) := hkd.ix c1 c2
        have hnm := hnames _ (List.getElem_mem hil)
        have hn' := nameOk_iff.1 hnm
        have hnz : 0 < (t.at (t.walk cwd p true).1).kids[i].name.size := by
          rcases Nat.eq_zero_or_pos (t.at (t.walk cwd p true).1).kids[i].name.size with h | h
          · exact absurd (ByteArray.size_eq_zero_iff.1 h) hn'.1
          · exact h
        have hx0 : idxT (.str (t.at (t.walk cwd p true).1).kids[i].name) (.int .i64 0) = some (.int .u8 (atB (t.at (t.walk cwd p true).1).kids[i].name 0).toNat) := ixT_of (by omega) (by omega)
        have q5 := Bld.app (g := [.cells 0 true 71 [.str (t.at (t.walk cwd p true).1).kids[i].name, .int .i64 (t.at (t.walk cwd p true).1).kids[i].ino]]) q2
        have q6 := get_app (g := [.cells 0 true 71 [.str (t.at (t.walk cwd p true).1).kids[i].name, .int .i64 (t.at (t.walk cwd p true).1).kids[i].ino]]) q1
        have hK3 : K ≤ st3.length := Nat.le_trans hK.2 q3.1
        have q7 : Lf w K st (st3 ++ [.cells 0 true 71 [.str (t.at (t.walk cwd p true).1).kids[i].name, .int .i64 (t.at (t.walk cwd p true).1).kids[i].ino]]) := q3.trans (Lf.app hK3)
        have hwi : IntKind.i64.wrap ((i : Int) + 1) = ((i + 1 : Nat) : Int) := by rw [w64] <;> omega
        simp -dsimp only [↓R0, RA, simprocAttr, RQ, hc, e0, e8, e65, e67, hix, hrow, hle, Ent.row, app_get0, hx0]
        refine hCall_c (d78 q6 q5 ⟨hK.1, by simp; omega⟩ (by omega)) ?_
        rintro _ st4 ⟨a4, b4, f1, f2, f3⟩
        simp -dsimp only [↓R0, RA, simprocAttr, RQ, e67, hwi]
        refine ⟨i + 1, by omega, (by first | trivial | (simp -dsimp only [R1, simprocAttr, e0]; done) | rfl), (by first | trivial | (simp -dsimp only [R1, simprocAttr, e8]; done) | rfl), (by first | trivial | (simp -dsimp only [R1, simprocAttr, e65]; done) | rfl), (by first | trivial | (simp -dsimp only [R1, simprocAttr, e66]; done) | rfl), (by first | trivial | (simp -dsimp only [R1, simprocAttr, e67, hwi]; done) | rfl), by omega, a4, b4, _, f1, f2, q7.trans f3, ?_⟩
        simp only [List.length_append, List.length_cons, List.length_nil, ← sz]
        omega
      · simp -dsimp only [↓R0, RA, simprocAttr, hc]
        exact ⟨a3, b3, s, x3, q1, q2, .inl rfl, q3, by omega, hno⟩
    · simp -dsimp only [↓R0, RA, simprocAttr, h5]
      simp -dsimp only [↓R0, RA, simprocAttr, g1, ld24, Tr.ixh hT.ok hlv.1, Tr.c4 hlv.1, hkd.lnV]
      refine hLoop_i (fun i : Nat => (t.at (t.walk cwd p true).1).kids.length - i) (fun i fr' st' => fr' 0 = .ptr w 0 0 ∧ fr' 8 = .bool false ∧ fr' 65 = (t.at (t.walk cwd p true).1).kd ∧ fr' 66 = .int .i64 (t.at (t.walk cwd p true).1).kids.length ∧ fr' 67 = .int .i64 i ∧ i ≤ (t.at (t.walk cwd p true).1).kids.length ∧
        ∃ a' b' x', st'[w]? = some (.cells 0 true 57 (wc t cwd o a' b' s)) ∧ Bld K st' w a' b' x' ∧ Lf w K st st' ∧ x'.length ≤ x.length + 3007 + i * 65) 0 ⟨rfl, (by first | trivial | (simp -dsimp only [R1, simprocAttr, h5]; done) | rfl), rfl, rfl, rfl, Nat.zero_le _, a1, b1, x1, g1, g2, kf, by rw [Nat.zero_mul, Nat.add_zero]; exact (show (x1).length ≤ x.length + 3007 by omega)⟩ ?_
      rintro i fr st3 ⟨e0, e8, e65, e66, e67, hi, a3, b3, x3, q1, q2, q3, q4⟩
      simp -dsimp only [↓R0, RA, simprocAttr, e66, e67]
      apply hIf_d <;> intro hc
      · have hil : i < (t.at (t.walk cwd p true).1).kids.length := by omega
        have c1 : (0 : Int) ≤ i := by omega
        have c2 : (i : Int) < ((t.at (t.walk cwd p true).1).kids.length : Nat) := by omega
        have hrow := rowsE_take (l := (t.at (t.walk cwd p true).1).kids) (j := i) (List.getElem?_eq_getElem hil)
        have hle : (i * 2 + 2 ≤ (rowsE (t.at (t.walk cwd p true).1).kids).length) = True := by rw [rowsE_length]; simp; omega
        have hix : idxS 2 (t.at (t.walk cwd p true).1).kd (.int .i64 i) = some (.fptr (rowsE (t.at (t.walk cwd p true).1).kids) (i * 2)) := hkd.ix c1 c2
        have hnm := hnames _ (List.getElem_mem hil)
        have hn' := nameOk_iff.1 hnm
        have hnz : 0 < (t.at (t.walk cwd p true).1).kids[i].name.size := by
          rcases Nat.eq_zero_or_pos (t.at (t.walk cwd p true).1).kids[i].name.size with h | h
          · exact absurd (ByteArray.size_eq_zero_iff.1 h) hn'.1
          · exact h
        have hx0 : idxT (.str (t.at (t.walk cwd p true).1).kids[i].name) (.int .i64 0) = some (.int .u8 (atB (t.at (t.walk cwd p true).1).kids[i].name 0).toNat) := ixT_of (by omega) (by omega)
        have q5 := Bld.app (g := [.cells 0 true 71 [.str (t.at (t.walk cwd p true).1).kids[i].name, .int .i64 (t.at (t.walk cwd p true).1).kids[i].ino]]) q2
        have q6 := get_app (g := [.cells 0 true 71 [.str (t.at (t.walk cwd p true).1).kids[i].name, .int .i64 (t.at (t.walk cwd p true).1).kids[i].ino]]) q1
        have hK3 : K ≤ st3.length := Nat.le_trans hK.2 q3.1
        have q7 : Lf w K st (st3 ++ [.cells 0 true 71 [.str (t.at (t.walk cwd p true).1).kids[i].name, .int .i64 (t.at (t.walk cwd p true).1).kids[i].ino]]) := q3.trans (Lf.app hK3)
        have hwi : IntKind.i64.wrap ((i : Int) + 1) = ((i + 1 : Nat) : Int) := by rw [w64] <;> omega
        simp -dsimp only [↓R0, RA, simprocAttr, RQ, hc, e0, e8, e65, e67, hix, hrow, hle, Ent.row, app_get0, hx0]
        apply hIf_d <;> intro h6
        · simp -dsimp only [↓R0, RA, simprocAttr, RQ, decide_eq_true h6, e67, hwi]
          refine ⟨i + 1, by omega, (by first | trivial | (simp -dsimp only [R1, simprocAttr, e0]; done) | rfl), (by first | trivial | (simp -dsimp only [R1, simprocAttr, e8]; done) | rfl), (by first | trivial | (simp -dsimp only [R1, simprocAttr, e65]; done) | rfl), (by first | trivial | (simp -dsimp only [R1, simprocAttr, e66]; done) | rfl), (by first | trivial | (simp -dsimp only [R1, simprocAttr, e67, hwi]; done) | rfl), by omega, a3, b3, x3, q6, q5, q7, by omega⟩
        · simp -dsimp only [↓R0, RA, simprocAttr, RQ, decide_eq_false h6, e0, app_get0]
          refine hCall_c (d78 q6 q5 ⟨hK.1, by simp; omega⟩ (by omega)) ?_
          rintro _ st4 ⟨a4, b4, f1, f2, f3⟩
          simp -dsimp only [↓R0, RA, simprocAttr, RQ, e67, hwi]
          refine ⟨i + 1, by omega, (by first | trivial | (simp -dsimp only [R1, simprocAttr, e0]; done) | rfl), (by first | trivial | (simp -dsimp only [R1, simprocAttr, e8]; done) | rfl), (by first | trivial | (simp -dsimp only [R1, simprocAttr, e65]; done) | rfl), (by first | trivial | (simp -dsimp only [R1, simprocAttr, e66]; done) | rfl), (by first | trivial | (simp -dsimp only [R1, simprocAttr, e67, hwi]; done) | rfl), by omega, a4, b4, _, f1, f2, q7.trans f3, ?_⟩
          simp only [List.length_append, List.length_cons, List.length_nil, ← sz]
          omega
      · simp -dsimp only [↓R0, RA, simprocAttr, hc]
        exact ⟨a3, b3, s, x3, q1, q2, .inl rfl, q3, by omega, hno⟩
  · simp -dsimp only [↓R0, RA, simprocAttr, h3]
    have kx := (show x.length ≤ x.length + 3002 by omega)
    have kf : Lf w K st st := Lf.refl
    simp -dsimp only [↓R0, RA, simprocAttr, hw, ld24, un, hCall_g (s79 hT.ok hT.modes (show (0 : Int) ≤ 4 ∧ (4 : Int) ≤ 7 by decide))]
    apply hIf_d <;> intro h4
    rotate_left
    · simp -dsimp only [↓R0, RA, simprocAttr, decide_eq_false h4, un, hw]
      exact ⟨a, b, 1, x, get_set_eq hw, Bld.set hB hK.1, .inr rfl, kf.trans Lf.set, by omega, hno⟩
    simp -dsimp only [↓R0, RA, simprocAttr, decide_eq_true h4, un, hCall_d (d18 hw)]
    refine hIf_b (fun h5 => ?_) (fun h5 => ?_)
    · simp -dsimp only [↓R0, RA, simprocAttr, h5]
      refine hCall_c (d78 (p := ⟨#[46, 10, 46, 46]⟩) hw hB ⟨hK.1, Nat.le_trans hK.2 kf.1⟩ (by show _ + 4 ≤ _; omega)) ?_
      rintro _ st2 ⟨a2, b2, f1, f2, f3⟩
      have hx2 : (x ++ bl (⟨#[46, 10, 46, 46]⟩ : ByteArray) ++ [10]).length ≤ x.length + 3007 := by
        simp only [List.length_append, List.length_cons, List.length_nil, ← sz]
        have : (⟨#[46, 10, 46, 46]⟩ : ByteArray).size = 4 := rfl
        omega
      generalize x ++ bl (⟨#[46, 10, 46, 46]⟩ : ByteArray) ++ [10] = x2 at *
      simp -dsimp only [↓R0, RA, simprocAttr, f1, ld24, Tr.ixh hT.ok hlv.1, Tr.c4 hlv.1, hkd.lnV]
      refine hLoop_i (fun i : Nat => (t.at (t.walk cwd p true).1).kids.length - i) (fun i fr' st' => fr' 0 = .ptr w 0 0 ∧ fr' 8 = .bool true ∧ fr' 65 = (t.at (t.walk cwd p true).1).kd ∧ fr' 66 = .int .i64 (t.at (t.walk cwd p true).1).kids.length ∧ fr' 67 = .int .i64 i ∧ i ≤ (t.at (t.walk cwd p true).1).kids.length ∧
        ∃ a' b' x', st'[w]? = some (.cells 0 true 57 (wc t cwd o a' b' s)) ∧ Bld K st' w a' b' x' ∧ Lf w K st st' ∧ x'.length ≤ x.length + 3007 + i * 65) 0 ⟨rfl, (by first | trivial | (simp -dsimp only [R1, simprocAttr, h5]; done) | rfl), rfl, rfl, rfl, Nat.zero_le _, a2, b2, x2, f1, f2, (kf.trans f3), by rw [Nat.zero_mul, Nat.add_zero]; exact hx2⟩ ?_
      rintro i fr st3 ⟨e0, e8, e65, e66, e67, hi, a3, b3, x3, q1, q2, q3, q4⟩
      simp -dsimp only [↓R0, RA, simprocAttr, e66, e67]
      apply hIf_d <;> intro hc
      · have hil : i < (t.at (t.walk cwd p true).1).kids.length := by omega
        have c1 : (0 : Int) ≤ i := by omega
        have c2 : (i : Int) < ((t.at (t.walk cwd p true).1).kids.length : Nat) := by omega
        have hrow := rowsE_take (l := (t.at (t.walk cwd p true).1).kids) (j := i) (List.getElem?_eq_getElem hil)
        have hle : (i * 2 + 2 ≤ (rowsE (t.at (t.walk cwd p true).1).kids).length) = True := by rw [rowsE_length]; simp; omega
        have hix : idxS 2 (t.at (t.walk cwd p true).1).kd (.int .i64 i) = some (.fptr (rowsE (t.at (t.walk cwd p true).1).kids) (i * 2)) := hkd.ix c1 c2
        have hnm := hnames _ (List.getElem_mem hil)
        have hn' := nameOk_iff.1 hnm
        have hnz : 0 < (t.at (t.walk cwd p true).1).kids[i].name.size := by
          rcases Nat.eq_zero_or_pos (t.at (t.walk cwd p true).1).kids[i].name.size with h | h
          · exact absurd (ByteArray.size_eq_zero_iff.1 h) hn'.1
          · exact h
        have hx0 : idxT (.str (t.at (t.walk cwd p true).1).kids[i].name) (.int .i64 0) = some (.int .u8 (atB (t.at (t.walk cwd p true).1).kids[i].name 0).toNat) := ixT_of (by omega) (by omega)
        have q5 := Bld.app (g := [.cells 0 true 71 [.str (t.at (t.walk cwd p true).1).kids[i].name, .int .i64 (t.at (t.walk cwd p true).1).kids[i].ino]]) q2
        have q6 := get_app (g := [.cells 0 true 71 [.str (t.at (t.walk cwd p true).1).kids[i].name, .int .i64 (t.at (t.walk cwd p true).1).kids[i].ino]]) q1
        have hK3 : K ≤ st3.length := Nat.le_trans hK.2 q3.1
        have q7 : Lf w K st (st3 ++ [.cells 0 true 71 [.str (t.at (t.walk cwd p true).1).kids[i].name, .int .i64 (t.at (t.walk cwd p true).1).kids[i].ino]]) := q3.trans (Lf.app hK3)
        have hwi : IntKind.i64.wrap ((i : Int) + 1) = ((i + 1 : Nat) : Int) := by rw [w64] <;> omega
        simp -dsimp only [↓R0, RA, simprocAttr, RQ, hc, e0, e8, e65, e67, hix, hrow, hle, Ent.row, app_get0, hx0]
        refine hCall_c (d78 q6 q5 ⟨hK.1, by simp; omega⟩ (by omega)) ?_
        rintro _ st4 ⟨a4, b4, f1, f2, f3⟩
        simp -dsimp only [↓R0, RA, simprocAttr, RQ, e67, hwi]
        refine ⟨i + 1, by omega, (by first | trivial | (simp -dsimp only [R1, simprocAttr, e0]; done) | rfl), (by first | trivial | (simp -dsimp only [R1, simprocAttr, e8]; done) | rfl), (by first | trivial | (simp -dsimp only [R1, simprocAttr, e65]; done) | rfl), (by first | trivial | (simp -dsimp only [R1, simprocAttr, e66]; done) | rfl), (by first | trivial | (simp -dsimp only [R1, simprocAttr, e67, hwi]; done) | rfl), by omega, a4, b4, _, f1, f2, q7.trans f3, ?_⟩
        simp only [List.length_append, List.length_cons, List.length_nil, ← sz]
        omega
      · simp -dsimp only [↓R0, RA, simprocAttr, hc]
        exact ⟨a3, b3, s, x3, q1, q2, .inl rfl, q3, by omega, hno⟩
    · simp -dsimp only [↓R0, RA, simprocAttr, h5]
      simp -dsimp only [↓R0, RA, simprocAttr, hw, ld24, Tr.ixh hT.ok hlv.1, Tr.c4 hlv.1, hkd.lnV]
      refine hLoop_i (fun i : Nat => (t.at (t.walk cwd p true).1).kids.length - i) (fun i fr' st' => fr' 0 = .ptr w 0 0 ∧ fr' 8 = .bool false ∧ fr' 65 = (t.at (t.walk cwd p true).1).kd ∧ fr' 66 = .int .i64 (t.at (t.walk cwd p true).1).kids.length ∧ fr' 67 = .int .i64 i ∧ i ≤ (t.at (t.walk cwd p true).1).kids.length ∧
        ∃ a' b' x', st'[w]? = some (.cells 0 true 57 (wc t cwd o a' b' s)) ∧ Bld K st' w a' b' x' ∧ Lf w K st st' ∧ x'.length ≤ x.length + 3007 + i * 65) 0 ⟨rfl, (by first | trivial | (simp -dsimp only [R1, simprocAttr, h5]; done) | rfl), rfl, rfl, rfl, Nat.zero_le _, a, b, x, hw, hB, kf, by rw [Nat.zero_mul, Nat.add_zero]; exact (show (x).length ≤ x.length + 3007 by omega)⟩ ?_
      rintro i fr st3 ⟨e0, e8, e65, e66, e67, hi, a3, b3, x3, q1, q2, q3, q4⟩
      simp -dsimp only [↓R0, RA, simprocAttr, e66, e67]
      apply hIf_d <;> intro hc
      · have hil : i < (t.at (t.walk cwd p true).1).kids.length := by omega
        have c1 : (0 : Int) ≤ i := by omega
        have c2 : (i : Int) < ((t.at (t.walk cwd p true).1).kids.length : Nat) := by omega
        have hrow := rowsE_take (l := (t.at (t.walk cwd p true).1).kids) (j := i) (List.getElem?_eq_getElem hil)
        have hle : (i * 2 + 2 ≤ (rowsE (t.at (t.walk cwd p true).1).kids).length) = True := by rw [rowsE_length]; simp; omega
        have hix : idxS 2 (t.at (t.walk cwd p true).1).kd (.int .i64 i) = some (.fptr (rowsE (t.at (t.walk cwd p true).1).kids) (i * 2)) := hkd.ix c1 c2
        have hnm := hnames _ (List.getElem_mem hil)
        have hn' := nameOk_iff.1 hnm
        have hnz : 0 < (t.at (t.walk cwd p true).1).kids[i].name.size := by
          rcases Nat.eq_zero_or_pos (t.at (t.walk cwd p true).1).kids[i].name.size with h | h
          · exact absurd (ByteArray.size_eq_zero_iff.1 h) hn'.1
          · exact h
        have hx0 : idxT (.str (t.at (t.walk cwd p true).1).kids[i].name) (.int .i64 0) = some (.int .u8 (atB (t.at (t.walk cwd p true).1).kids[i].name 0).toNat) := ixT_of (by omega) (by omega)
        have q5 := Bld.app (g := [.cells 0 true 71 [.str (t.at (t.walk cwd p true).1).kids[i].name, .int .i64 (t.at (t.walk cwd p true).1).kids[i].ino]]) q2
        have q6 := get_app (g := [.cells 0 true 71 [.str (t.at (t.walk cwd p true).1).kids[i].name, .int .i64 (t.at (t.walk cwd p true).1).kids[i].ino]]) q1
        have hK3 : K ≤ st3.length := Nat.le_trans hK.2 q3.1
        have q7 : Lf w K st (st3 ++ [.cells 0 true 71 [.str (t.at (t.walk cwd p true).1).kids[i].name, .int .i64 (t.at (t.walk cwd p true).1).kids[i].ino]]) := q3.trans (Lf.app hK3)
        have hwi : IntKind.i64.wrap ((i : Int) + 1) = ((i + 1 : Nat) : Int) := by rw [w64] <;> omega
        simp -dsimp only [↓R0, RA, simprocAttr, RQ, hc, e0, e8, e65, e67, hix, hrow, hle, Ent.row, app_get0, hx0]
        apply hIf_d <;> intro h6
        · simp -dsimp only [↓R0, RA, simprocAttr, RQ, decide_eq_true h6, e67, hwi]
          refine ⟨i + 1, by omega, (by first | trivial | (simp -dsimp only [R1, simprocAttr, e0]; done) | rfl), (by first | trivial | (simp -dsimp only [R1, simprocAttr, e8]; done) | rfl), (by first | trivial | (simp -dsimp only [R1, simprocAttr, e65]; done) | rfl), (by first | trivial | (simp -dsimp only [R1, simprocAttr, e66]; done) | rfl), (by first | trivial | (simp -dsimp only [R1, simprocAttr, e67, hwi]; done) | rfl), by omega, a3, b3, x3, q6, q5, q7, by omega⟩
        · simp -dsimp only [↓R0, RA, simprocAttr, RQ, decide_eq_false h6, e0, app_get0]
          refine hCall_c (d78 q6 q5 ⟨hK.1, by simp; omega⟩ (by omega)) ?_
          rintro _ st4 ⟨a4, b4, f1, f2, f3⟩
          simp -dsimp only [↓R0, RA, simprocAttr, RQ, e67, hwi]
          refine ⟨i + 1, by omega, (by first | trivial | (simp -dsimp only [R1, simprocAttr, e0]; done) | rfl), (by first | trivial | (simp -dsimp only [R1, simprocAttr, e8]; done) | rfl), (by first | trivial | (simp -dsimp only [R1, simprocAttr, e65]; done) | rfl), (by first | trivial | (simp -dsimp only [R1, simprocAttr, e66]; done) | rfl), (by first | trivial | (simp -dsimp only [R1, simprocAttr, e67, hwi]; done) | rfl), by omega, a4, b4, _, f1, f2, q7.trans f3, ?_⟩
          simp only [List.length_append, List.length_cons, List.length_nil, ← sz]
          omega
      · simp -dsimp only [↓R0, RA, simprocAttr, hc]
        exact ⟨a3, b3, s, x3, q1, q2, .inl rfl, q3, by omega, hno⟩
end
section
variable {t t' : Tr} {cwd s : Int} {o : ByteArray} {a b : D} {w K : Nat} {st : Store}
abbrev mkdirS : ByteArray := ⟨#[109, 107, 100, 105, 114]⟩
abbrev rmdirS : ByteArray := ⟨#[114, 109, 100, 105, 114]⟩
abbrev rmS : ByteArray := ⟨#[114, 109]⟩
abbrev touchS : ByteArray := ⟨#[116, 111, 117, 99, 104]⟩
abbrev lsS : ByteArray := ⟨#[108, 115]⟩
abbrev lnS : ByteArray := ⟨#[108, 110]⟩
def TouchR (t : Tr) (cwd : Int) (p : ByteArray) (s : Int) (t' : Tr) (s' : Int) : Prop :=
  ((t.walk cwd p true).2 = 0 ∧ t' = t ∧ s' = s) ∨ ((t.walk cwd p true).2 ≠ 0 ∧ ((t' = t ∧ s' = 1) ∨ (s' = s ∧ ∃ k, NewF t t' cwd p 6 k)))
def EachR (t : Tr) (cwd : Int) (o nm p : ByteArray) (s : Int) (t' : Tr) (s' : Int) : Prop := (nm = touchS → TouchR t cwd p s t' s') ∧ (nm = rmS → RmR t cwd o p t' s')
theorem d23 {nm p : ByteArray} {h : Bool} (hT : T t) (hp : p.size ≤ 900000) (hnl : nm ≠ lsS) (hw : st[w]? = some (.cells 0 true 57 (wc t cwd o a b s))) :
    CallW C TP 23 [.ptr w 0 0, .str nm, .str p, .bool h] st fun _ st' => Wrk t cwd o a b s w st st' (EachR t cwd o nm p s) := by
  refine call_th rfl rfl (body_h b23 (by show 4 ≤ 46; decide) ?_)
  have hp1 : p.size ≤ 1000000 := by omega
  simp -dsimp only [↓R0, RA, simprocAttr]
  apply hIf_d <;> intro h1
  · simp -dsimp only [↓R0, RA, simprocAttr, decide_eq_true h1]
    refine hCall_c (d44 hT hp hw) ?_
    rintro _ st1 ⟨t1, s1, g1, g2, g3, g4, _⟩
    simp -dsimp only [↓R0, RA, simprocAttr]
    exact ⟨t1, s1, g1, g2, g3, g4, ⟨fun e => absurd (h1.symm.trans e) (by decide), fun e => absurd (h1.symm.trans e) (by decide)⟩⟩
  simp -dsimp only [↓R0, RA, simprocAttr, decide_eq_false h1]
  apply hIf_d <;> intro h2
  · have e1 : nm = touchS → False := fun e => absurd (h2.symm.trans e) (by decide)
    have e2 : nm = rmS → False := fun e => absurd (h2.symm.trans e) (by decide)
    simp -dsimp only [↓R0, RA, simprocAttr, decide_eq_true h2]
    rcases s46k (cwd := cwd) hT hp1 with ⟨e, he, hg⟩ | ⟨t', hg, hk, _⟩
    · simp -dsimp only [↓R0, RA, simprocAttr, hw, ld24, hCall_g hg]
      refine hCall_c (d45e (t' := t) he rfl hw) ?_
      rintro _ st' ⟨rfl, r1, r2⟩
      simp -dsimp only [↓R0, RA, simprocAttr]
      exact ⟨t, 1, r1, .refl hT, .inr rfl, r2, ⟨fun x => (e1 x).elim, fun x => (e2 x).elim⟩⟩
    · simp -dsimp only [↓R0, RA, simprocAttr, hw, ld24, hCall_g hg]
      refine hCall_c (d45 (t' := t') hw) ?_
      rintro _ st' ⟨rfl, r1, r2⟩
      simp -dsimp only [↓R0, RA, simprocAttr]
      exact ⟨t', s, r1, hk, .inl rfl, r2, ⟨fun x => (e1 x).elim, fun x => (e2 x).elim⟩⟩
  simp -dsimp only [↓R0, RA, simprocAttr, decide_eq_false h2]
  apply hIf_d <;> intro h3
  · simp -dsimp only [↓R0, RA, simprocAttr, decide_eq_true h3]
    refine hCall_c (d47 _ (Nat.le_refl _) hT hp1 hw) ?_
    rintro _ st1 ⟨t1, s1, g1, g2, g3, g4, g5⟩
    simp -dsimp only [↓R0, RA, simprocAttr]
    exact ⟨t1, s1, g1, g2, g3, g4, ⟨fun e => absurd (h3.symm.trans e) (by decide), fun _ => g5⟩⟩
  simp -dsimp only [↓R0, RA, simprocAttr, decide_eq_false h3]
  apply hIf_d <;> intro h4
  · simp -dsimp only [↓R0, RA, simprocAttr, decide_eq_true h4]
    refine hCall_c (d48 hT hp1 hw) ?_
    rintro _ st1 ⟨t1, s1, g1, g2, g3, g4, g5⟩
    simp -dsimp only [↓R0, RA, simprocAttr]
    exact ⟨t1, s1, g1, g2, g3, g4, ⟨fun _ => g5, fun e => absurd (h4.symm.trans e) (by decide)⟩⟩
  simp -dsimp only [↓R0, RA, simprocAttr, decide_eq_false h4]
  refine hIf_d (fun h5 => absurd h5 hnl) (fun h5 => ?_)
  simp -dsimp only [↓R0, RA, simprocAttr, decide_eq_false h5]
  exact ⟨t, s, hw, .refl hT, .inl rfl, .refl, ⟨fun e => absurd e h4, fun e => absurd e h3⟩⟩
theorem d23l {x : List UInt8} {p : ByteArray} {h : Bool} (hT : T t) (hp : p.size ≤ 3000) (hw : st[w]? = some (.cells 0 true 57 (wc t cwd o a b s))) (hB : Bld K st w a b x) (hK : w < K ∧ K ≤ st.length) (hl : x.length ≤ 10000000) :
    CallW C TP 23 [.ptr w 0 0, .str lsS, .str p, .bool h] st fun _ st' => LsR K t cwd o s p w st st' x := by
  refine call_th rfl rfl (body_h b23 (by show 4 ≤ 46; decide) ?_)
  have n1 : ¬ lsS = mkdirS := by decide
  have n2 : ¬ lsS = rmdirS := by decide
  have n3 : ¬ lsS = rmS := by decide
  have n4 : ¬ lsS = touchS := by decide
  simp -dsimp only [↓R0, RA, simprocAttr, decide_eq_false n1, decide_eq_false n2, decide_eq_false n3, decide_eq_false n4]
  refine hCall_c (d49 (hd := h) hT hp hw hB hK hl) ?_
  rintro _ st1 h1
  simp -dsimp only [↓R0, RA, simprocAttr]
  exact h1
def knw (nm : ByteArray) : Option (ByteArray × Int × Int) :=
  if nm = mkdirS then some (⟨#[112]⟩, 1, -1) else if nm = rmS then some (⟨#[114, 102]⟩, 1, -1) else if nm = lnS then some (⟨#[115]⟩, 2, 2) else if nm = lsS then some (⟨#[97, 49]⟩, 0, -1) else
  if nm = rmdirS ∨ nm = touchS then some (emS, 1, -1) else if nm = mvS ∨ nm = cpS then some (emS, 2, -1) else none
def knwD (nm : ByteArray) : D := match knw nm with
  | some (o, l, m) => .tup [.agg [.str o, .int .i64 l, .int .i64 m], .bool true]
  | none => .tup [.agg [.str emS, .int .i64 0, .int .i64 0], .bool false]
theorem s16 {nm : ByteArray} : Gives C TP 16 [.str nm] (knwD nm) := by
  refine gives_frz rfl rfl rfl (body_h b16 (by show 1 ≤ 26; decide) ?_)
  unfold knwD knw
  have fin : ∀ (st : Store) (o : ByteArray) (l m : Int) (b : Bool), fz st 8 (.tup [.agg [.str o, .int .i64 l, .int .i64 m], .bool b]) = some (.tup [.agg [.str o, .int .i64 l, .int .i64 m], .bool b]) := fun st o l m b => fz_0 (by simp only [refs, refsL, List.append_nil])
  simp -dsimp only [↓R0, RA, simprocAttr]
  apply hIf_d <;> intro h1
  · simp -dsimp only [↓R0, RA, simprocAttr, decide_eq_true h1, ld24]
    rw [if_pos h1]; exact fin _ _ _ _ _
  simp -dsimp only [↓R0, RA, simprocAttr, decide_eq_false h1]
  rw [if_neg h1]
  apply hIf_d <;> intro h2
  · simp -dsimp only [↓R0, RA, simprocAttr, decide_eq_true h2, ld24]
    rw [if_pos h2]; exact fin _ _ _ _ _
  simp -dsimp only [↓R0, RA, simprocAttr, decide_eq_false h2]
  rw [if_neg h2]
  apply hIf_d <;> intro h3
  · simp -dsimp only [↓R0, RA, simprocAttr, decide_eq_true h3, ld24]
    rw [if_pos h3]; exact fin _ _ _ _ _
  simp -dsimp only [↓R0, RA, simprocAttr, decide_eq_false h3]
  rw [if_neg h3]
  apply hIf_d <;> intro h4
  · simp -dsimp only [↓R0, RA, simprocAttr, decide_eq_true h4, ld24]
    rw [if_pos h4]; exact fin _ _ _ _ _
  simp -dsimp only [↓R0, RA, simprocAttr, decide_eq_false h4]
  rw [if_neg h4]
  apply hIf_d <;> intro h5
  · simp -dsimp only [↓R0, RA, simprocAttr, decide_eq_true h5, ld24]
    rw [if_pos (.inl h5)]; exact fin _ _ _ _ _
  simp -dsimp only [↓R0, RA, simprocAttr, decide_eq_false h5]
  apply hIf_d <;> intro h6
  · simp -dsimp only [↓R0, RA, simprocAttr, decide_eq_true h6, ld24]
    rw [if_pos (.inr h6)]; exact fin _ _ _ _ _
  simp -dsimp only [↓R0, RA, simprocAttr, decide_eq_false h6]
  rw [if_neg (fun x => x.elim h5 h6)]
  apply hIf_d <;> intro h7
  · simp -dsimp only [↓R0, RA, simprocAttr, decide_eq_true h7, ld24]
    rw [if_pos (.inl h7)]; exact fin _ _ _ _ _
  simp -dsimp only [↓R0, RA, simprocAttr, decide_eq_false h7]
  apply hIf_d <;> intro h8
  · simp -dsimp only [↓R0, RA, simprocAttr, decide_eq_true h8, ld24]
    rw [if_pos (.inr h8)]; exact fin _ _ _ _ _
  simp -dsimp only [↓R0, RA, simprocAttr, decide_eq_false h8, ld24]
  rw [if_neg (fun x => x.elim h7 h8)]; exact fin _ _ _ _ _
end
section
variable {st : Store}
theorem d20 {d : D} (hc : D.cells? d = some [d]) : Does1 C TP 20 [d] st (.fn 39 [.ptr st.length 0 0]) (st ++ [.cells 0 true 25 [d]]) := by
  refine does_of (call_th rfl rfl (body_h b20 (by show 1 ≤ 4; decide) ?_))
  simp -dsimp only [↓R0, RA, simprocAttr, hc]
theorem hands39 {l : List ByteArray} {d : D} {pb : Nat} (hd : Sl l.length (rowsS l) d) (hl : l.length ≤ 1000000) (hp : st[pb]? = some (.cells 0 true 25 [d])) : Hands 39 [.ptr pb 0 0] l (fun _ => True) st := by
  intro lid b st0 hb hk hG
  have hpb := get_lt hp
  have hbl := hG.1
  refine body_h b39 (by show 2 ≤ 16; decide) ?_
  simp -dsimp only [↓R0, RA, simprocAttr, hk _ hpb, hp, hd.lnV]
  refine hLoop_i (fun i : Nat => l.length - i) (fun i fr' st' => fr' 0 = .yld lid ∧ fr' 5 = d ∧ fr' 6 = .int .i64 l.length ∧ fr' 7 = .int .i64 i ∧ i ≤ l.length ∧ Gath lid b 0 (l.take i) st' ∧ ∀ j, j < st.length → st'[j]? = st[j]?) 0 ⟨rfl, rfl, rfl, rfl, Nat.zero_le _, hG, hk⟩ ?_
  rintro i fr st1 ⟨e0, e5, e6, e7, hi, g1, g2⟩
  simp -dsimp only [↓R0, RA, simprocAttr, e6, e7]
  apply hIf_d <;> intro hc
  · have hil : i < l.length := by omega
    have hix : idxS 1 d (.int .i64 i) = some (.fptr (rowsS l) i) := by rw [hd.ix (by omega) (by omega), Int.toNat_natCast, Nat.mul_one]
    have hwi : IntKind.i64.wrap ((i : Int) + 1) = ((i + 1 : Nat) : Int) := by rw [w64] <;> omega
    simp -dsimp only [↓R0, RA, simprocAttr, hc, e0, e5, e7, hix, rowsS_get hil]
    refine hYield_c (y55 (x := l[i]) g1 (by rw [List.length_take]; omega)) ?_
    rintro _ st2 ⟨rfl, f1, f2⟩
    have e : l.take i ++ [l[i]] = l.take (i + 1) := by rw [List.take_add_one, List.getElem?_eq_getElem hil]; rfl
    rw [e] at f1
    simp -dsimp only [↓R0, RA, simprocAttr, un, e7, hwi]
    exact ⟨i + 1, by omega, (by first | trivial | (simp -dsimp only [R1, simprocAttr, e0]; done) | rfl), (by first | trivial | (simp -dsimp only [R1, simprocAttr, e5]; done) | rfl), (by first | trivial | (simp -dsimp only [R1, simprocAttr, e6]; done) | rfl), (by first | trivial | (simp -dsimp only [R1, simprocAttr]; done) | rfl), by omega, f1, fun j hj => by rw [f2 j (by omega) (by omega)]; exact g2 j hj⟩
  · simp -dsimp only [↓R0, RA, simprocAttr, hc]
    have : l.take i = l := List.take_of_length_le (by omega)
    rw [this] at g1
    exact ⟨g1, fun j hj _ => g2 j hj⟩
theorem strsOf_map : ∀ (l : List ByteArray), strsOf (l.map .str) = some l
  | [] => rfl
  | s :: l => by simp only [List.map_cons, strsOf, strsOf_map l]
theorem sortB_len (l : List ByteArray) : (sortB l).length = l.length := by simp [sortB]
theorem sortB_mem {x : ByteArray} (l : List ByteArray) (h : x ∈ sortB l) : x ∈ l := by
  simp only [sortB, List.mem_map, List.mem_mergeSort] at h
  obtain ⟨_, ⟨s, hs, rfl⟩, rfl⟩ := h
  exact hs
theorem sortB_one (p : ByteArray) : sortB [p] = [p] := by
  simp [sortB]
theorem d19 {l : List ByteArray} {d : D} {pb : Nat} (hd : Sl l.length (rowsS l) d) (hl : l.length ≤ 1000000) (hp : st[pb]? = some (.cells 0 true 25 [d])) :
    CallW C TP 19 [.fn 39 [.ptr pb 0 0]] st fun r st' => ((l = [] ∧ r = .nils) ∨ ∃ id ver, r = .osl id ver 1 0 l.length ∧ st.length < id ∧ l ≠ [] ∧ st'[id]? = some (.cells ver true 9 ((sortB l).map .str))) ∧ ∀ i, i < st.length → st'[i]? = st[i]? := by
  refine call_th rfl rfl (body_h b19 (by show 1 ≤ 9; decide) ?_)
  simp -dsimp only [↓R0, RA, simprocAttr]
  refine hCall_c (t37 (hands39 hd hl hp)) ?_
  rintro r st1 ⟨h | ⟨id, ver, h1, h2, h3, h4⟩, hk⟩
  · obtain ⟨rfl, rfl⟩ := h
    simp -dsimp only [↓R0, RA, simprocAttr, hCall_d (call_ex (C := C) (P := TP) (f := 38) (g := x38) (args := [.nils]) (st := st1) rfl rfl)]
    exact ⟨.inl (by first | trivial | exact ⟨rfl, rfl⟩), fun i hi => hk i hi trivial⟩
  · subst h1
    have hx : x38 [.osl id ver 1 0 l.length] st1 = some (.undef, st1.set id (.cells ver true 9 ((sortB l).map .str))) := by
      have hlen : 1 ≤ l.length := List.length_pos_iff.2 h3
      simp only [x38, h4, strsOf_map, List.length_map, true_and]
      rw [if_pos ⟨hlen, by omega⟩]
    simp -dsimp only [↓R0, RA, simprocAttr, hCall_d (call_ex (C := C) (P := TP) (f := 38) (g := x38) rfl hx)]
    refine ⟨.inr ⟨id, ver, rfl, h2, h3, get_set_eq h4⟩, fun i hi => ?_⟩
    rw [get_set_ne (by omega)]; exact hk i hi trivial
end
section
variable {t t' : Tr} {cwd s : Int} {o : ByteArray} {a b : D} {w K : Nat} {st : Store}
theorem d22 {x : List UInt8} (hw : st[w]? = some (.cells 0 true 57 (wc t cwd o a b s))) (hB : Bld K st w a b x) (hxm : x.length ≤ 1000000000) : ∃ st', Does1 C TP 22 [.ptr w 0 5] st (.str (ofL x)) st' ∧ st'.length = st.length ∧ (∀ i, i < K → st'[i]? = st[i]?) ∧ ∀ i, i < K → i ∉ f22 [.ptr w 0 5] st := by
  obtain ⟨h1, ⟨rfl, rfl⟩ | ⟨id, ver, rfl, h3, h4, h5⟩⟩ := hB
  · refine ⟨st, call_ex (C := C) (P := TP) (f := 22) (g := x22) rfl ?_, rfl, fun _ _ => rfl, fun i hi => by simp [f22, hw, wc]⟩
    simp only [x22, hw, wc, List.length_cons, List.length_nil, List.getElem?_cons_succ, List.getElem?_cons_zero, true_and]
    rw [if_pos (by decide)]
    rfl
  · have hxl : (ofBytes x).length = x.length := ofBytes_len
    have hx1 : 1 ≤ x.length := List.length_pos_iff.2 h4
    refine ⟨st.set id .dead, call_ex (C := C) (P := TP) (f := 22) (g := x22) rfl ?_, List.length_set, fun i hi => get_set_ne (by omega), fun i hi => by simp [f22, hw, wc]; omega⟩
    simp only [x22, hw, wc, List.length_cons, List.length_nil, List.getElem?_cons_succ, List.getElem?_cons_zero, true_and, h5]
    rw [if_pos (by decide), if_pos ⟨by omega, by omega, by omega⟩, List.take_of_length_le (by omega), bytesOf_of]
    rfl
theorem d22n (hw : st[w]? = some (.cells 0 true 57 (wc t cwd o a .nils s))) : Does1 C TP 22 [.ptr w 0 5] st (.str ⟨#[]⟩) st ∧ f22 [.ptr w 0 5] st = [] := by
  refine ⟨call_ex (C := C) (P := TP) (f := 22) (g := x22) rfl ?_, by simp [f22, hw, wc]⟩
  simp only [x22, hw, wc, List.length_cons, List.length_nil, List.getElem?_cons_succ, List.getElem?_cons_zero, true_and]
  rw [if_pos (by decide)]
abbrev dashr : ByteArray := ⟨#[45, 114]⟩
abbrev rO : ByteArray := ⟨#[114]⟩
def Plain (p : ByteArray) : Prop := p.size ≤ 1 ∨ atB p 0 ≠ 45
structure DoR (t : Tr) (cwd : Int) (nm : ByteArray) (l : List ByteArray) (t' : Tr) (x : List UInt8) (s' : Int) : Prop where
  kept : Kept t cwd t'
  stat : s' = 0 ∨ s' = 1 ∨ ((s' = 2 ∨ s' = 127) ∧ t' = t)
  ls : nm = lsS → t' = t
  out : nm ≠ lsS → x = []
  touch : ∀ p, l = [p] → Plain p → nm = touchS → TouchR t cwd p 0 t' s'
  look : ∀ p, l = [p] → Plain p → nm = lsS → (t.walk cwd p true).2 = 0 → (t.at (t.walk cwd p true).1).kind ≠ 2 → s' = 0 ∧ x = bl p ++ [10]
  rm : ∀ p, l = [dashr, p] → Plain p → nm = rmS → RmR t cwd rO p t' s'
  cp : ∀ p q, l = [p, q] → Plain p → nm = cpS → BrR t cwd cpS p (goal t cwd p q) t' s'
theorem DoR.err (hT : T t) {nm : ByteArray} {l : List ByteArray} {e : Int} (he : e = 2 ∨ e = 127) (h1 : ∀ p, l = [p] → Plain p → nm = touchS ∨ nm = lsS → False) (h2 : ∀ p, l = [dashr, p] → nm ≠ rmS) (h3 : ∀ p q, l = [p, q] → Plain p → nm ≠ cpS) : DoR t cwd nm l t [] e :=
  ⟨.refl hT, .inr (.inr ⟨he, rfl⟩), fun _ => rfl, fun _ => rfl, fun p hp hq e => (h1 p hp hq (.inl e)).elim, fun p hp hq e => (h1 p hp hq (.inr e)).elim, fun p hp _ e => absurd e (h2 p hp), fun p q hp hq e => absurd e (h3 p q hp hq)⟩
theorem do_fz {x : List UInt8} {st : Store} (hok : t'.Ok) : fz st 8 (.tup [t'.d, .str (ofL x), .int .i64 s]) = some (.tup [t'.d, .str (ofL x), .int .i64 s]) := fz_0 (by simp only [refs, refsL, hok.ref, List.append_nil])
theorem mv_ex {f : FuncId} (hx : C.ext f = none) (hm : C.mode f = .move) {args : List D} (ha : refsL args = []) {Q : D → Prop} (h : BodyW C TP f args [] fun d0 st1 => ∃ d, fz st1 8 d0 = some d ∧ Q d) : ∃ d, Gives C TP f args d ∧ Q d := by
  obtain ⟨k, d0, st1, hr, d, hz, hq⟩ := h
  refine ⟨d, ⟨k + 1, fun st => ?_⟩, hq⟩
  have e0 : ∀ st k, mapO (fz st (k + 1)) args = some args := by
    intro st k
    have gen : ∀ xs : List D, refsL xs = [] → mapO (fz st (k + 1)) xs = some xs := by
      intro xs
      induction xs with
      | nil => intro _; rfl
      | cons x xs ih =>
        intro h
        simp only [refsL, List.append_eq_nil_iff] at h
        simp only [mapO, fz_0 h.1, ih h.2]
    exact gen args ha
  have e1 : reach st 6 (addNew [] (refsL args)) = [] := by
    rw [ha]
    have : ∀ k, reach st k [] = [] := by
      intro k
      induction k with
      | zero => rfl
      | succ k ih => unfold reach; exact ih
    exact this 6
  have e2 : kill [] st = st := by
    unfold kill
    have : ∀ (l : Store) (i : Nat), killGo [] st l i = l := by
      intro l
      induction l with
      | nil => intro i; rfl
      | cons b l ih => intro i; simp [killGo, givenB, ih]
    exact this st 0
  rw [rcall, hx, hm]
  simp only [e1, e0, hr, hz, e2]
variable {nm : ByteArray} {l : List ByteArray} {d : D}
abbrev DoG (t : Tr) (cwd : Int) (nm : ByteArray) (l : List ByteArray) (d : D) : Prop := ∃ r, Gives C TP 8 [t.d, .int .i64 cwd, .str nm, d] r ∧ ∃ t' x s', r = .tup [t'.d, .str (ofL x), .int .i64 s'] ∧ DoR t cwd nm l t' x s'
theorem ref4d (ok : t.Ok) (hd : Sl l.length (rowsS l) d) : refsL [t.d, .int .i64 cwd, .str nm, d] = [] := by
  simp only [refsL, refs, Tr.d, Tr.c, ok.ref, sl_refs hd rowsS_refs, List.append_nil]
theorem d8_no (hT : T t) (hd : Sl l.length (rowsS l) d) (hk : knw nm = none) : DoG t cwd nm l d := by
  refine mv_ex rfl rfl (ref4d hT.ok hd) (body_h b8 (by show 4 ≤ 122; decide) ?_)
  have hkn : knwD nm = .tup [.agg [.str emS, .int .i64 0, .int .i64 0], .bool false] := by unfold knwD; rw [hk]
  have g16 := s16 (nm := nm)
  rw [hkn] at g16
  simp -dsimp only [↓R0, RA, simprocAttr, hCall_g g16, un, ld24]
  refine ⟨_, do_fz (x := []) hT.ok, t, [], 127, rfl, DoR.err hT (.inr rfl) ?_ ?_ ?_⟩
  · rintro p _ _ (rfl | rfl) <;> exact absurd hk (by decide)
  · rintro p _ rfl; exact absurd hk (by decide)
  · rintro p q _ _ rfl; exact absurd hk (by decide)
structure OneR (t : Tr) (cwd : Int) (nm : ByteArray) (o : ByteArray) (r : List ByteArray) (t' : Tr) (s' : Int) : Prop where
  kept : Kept t cwd t'
  stat : s' = 0 ∨ s' = 1
  one : ∀ p, r = [p] → EachR t cwd o nm p 0 t' s'
theorem d8_one {o0 : ByteArray} (hT : T t) (hd : Sl l.length (rowsS l) d) (hsz : (l.map ByteArray.size).sum ≤ 3000) (hln : l.length ≤ 1000) (hk : knw nm = some (o0, 1, -1)) (hrm : nm ≠ rmS) (hls : nm ≠ lsS) : DoG t cwd nm l d := by
  refine mv_ex rfl rfl (ref4d hT.ok hd) (body_h b8 (by show 4 ≤ 122; decide) ?_)
  have hkn : knwD nm = .tup [.agg [.str o0, .int .i64 1, .int .i64 (-1)], .bool true] := by unfold knwD; rw [hk]
  have ho0 : o0.size ≤ 1000 := by
    unfold knw at hk
    repeat' split at hk
    all_goals first | (cases hk; done) | (injection hk with hk; injection hk with hk; subst hk; decide)
  obtain ⟨_, g17, o, r, dr, ok, rfl, hdr, hO⟩ := s17 (set := o0) hd ho0 (by omega)
  have g16 := s16 (nm := nm)
  rw [hkn] at g16
  simp -dsimp only [↓R0, RA, simprocAttr, hCall_g g16, un, ld24, hCall_g g17, decide_eq_false hrm]
  have hcp : nm ≠ cpS := by
    rintro rfl
    have : (knw cpS).map (·.2.1) = some 2 := by decide
    rw [hk] at this; cases this
  have hnone : ∀ p, l = [p] → Plain p → ok = true ∧ o = emS ∧ r = [p] := by
    rintro p rfl hp
    refine hO.none ?_
    rintro s hs
    injection hs with hs
    subst hs; exact hp
  have herr : (ok = true → r = []) → DoR t cwd nm l t [] 2 := fun h => DoR.err hT (.inl rfl) (fun p e1 e2 _ => by
    obtain ⟨q1, _, q2⟩ := hnone p e1 e2
    rw [h q1] at q2; cases q2) (fun _ _ => hrm) (fun _ _ _ _ => hcp)
  refine hIf_b (fun h1 => ?_) (fun h1 => ?_)
  rotate_left
  · simp -dsimp only [↓R0, RA, simprocAttr, h1, un, ld24]
    exact ⟨_, do_fz (x := []) hT.ok, t, [], 2, rfl, herr (fun h => by rw [h1] at h; cases h)⟩
  have hdr := hdr h1
  simp -dsimp only [↓R0, RA, simprocAttr, h1, un, hdr.lnV]
  apply hIf_d <;> intro h2
  · simp -dsimp only [↓R0, RA, simprocAttr, decide_eq_true h2, h1, un, ld24]
    exact ⟨_, do_fz (x := []) hT.ok, t, [], 2, rfl, herr (fun _ => List.eq_nil_of_length_eq_zero (by omega))⟩
  have cm : ¬ ((0 : Int) ≤ -1) := by decide
  have e12 : ¬ ((1 : Int) = 2) := by decide
  simp -dsimp only [↓R0, RA, simprocAttr, decide_eq_false h2, h1, un, hdr.lnV, cm, decide_eq_false hls, e12]
  generalize hS0 : ([Blk.cells 0 true 24 t.c, Blk.cells 0 true 24 [D.nils, D.int IntKind.i64 0, D.int IntKind.i64 0], Blk.cells 0 true 46 [D.str o0, (.int .i64 1), D.int IntKind.i64 (-1)], Blk.cells 0 true 57 [t.nd, D.int IntKind.i64 t.mx, D.int IntKind.i64 t.mb, D.int IntKind.i64 cwd, D.str o, D.nilp, D.nils, D.int IntKind.i64 0]] : Store) = S0
  have hS1 : S0[1]? = some (Blk.cells 0 true 24 [D.nils, D.int IntKind.i64 0, D.int IntKind.i64 0]) := by rw [← hS0]; rfl
  have hS3 : S0[3]? = some (Blk.cells 0 true 57 (wc t cwd o .nilp .nils 0)) := by rw [← hS0]; rfl
  have hrs : ∀ i (h : i < r.length), r[i].size ≤ 3000 := by
    intro i h
    obtain ⟨n, hn⟩ := hO.suf
    have hsub : ∀ x ∈ r, x ∈ l := by rw [hn]; exact fun x hx => List.mem_of_mem_drop hx
    have h1 : r[i] ∈ l := hsub _ (List.getElem_mem h)
    have := le_sum (List.mem_map.2 ⟨_, h1, rfl⟩ : r[i].size ∈ l.map ByteArray.size)
    omega
  have hrl : r.length ≤ 1000 := by
    obtain ⟨n, hn⟩ := hO.suf
    rw [hn, List.length_drop]; omega
  refine hLoop_i (fun i : Nat => r.length - i) (fun i fr' st' => fr' 2 = .str nm ∧ fr' 8 = .ptr 1 0 0 ∧ fr' 14 = dr ∧ fr' 15 = .ptr 3 0 0 ∧ fr' 96 = dr ∧ fr' 97 = .int .i64 r.length ∧ fr' 98 = .int .i64 i ∧ i ≤ r.length ∧
    ∃ t1 s1, st'[3]? = some (.cells 0 true 57 (wc t1 cwd o .nilp .nils s1)) ∧ Kept t cwd t1 ∧ (s1 = 0 ∨ s1 = 1) ∧ Lft 3 S0 st' ∧ (i = 0 → t1 = t ∧ s1 = 0) ∧ (∀ h0 : 0 < r.length, i = 1 → EachR t cwd o nm r[0] 0 t1 s1)) 0 ⟨rfl, rfl, rfl, rfl, rfl, rfl, rfl, Nat.zero_le _, t, 0, hS3, .refl hT, .inl rfl, .refl, fun _ => ⟨rfl, rfl⟩, fun _ h => by cases h⟩ ?_
  rintro i fr st1 ⟨f2, f8, f14, f15, f96, f97, f98, hi, t1, s1, w1, w2, w3, w4, w5, w6⟩
  have k1 : st1[1]? = some (Blk.cells 0 true 24 [D.nils, D.int IntKind.i64 0, D.int IntKind.i64 0]) := w4.get hS1 (by decide)
  simp -dsimp only [↓R0, RA, simprocAttr, f97, f98]
  apply hIf_d <;> intro hc
  · have hil : i < r.length := by omega
    have hix : idxS 1 dr (.int .i64 i) = some (.fptr (rowsS r) i) := by rw [hdr.ix (by omega) (by omega), Int.toNat_natCast, Nat.mul_one]
    have hri := hrs i hil
    have hwi : IntKind.i64.wrap ((i : Int) + 1) = ((i + 1 : Nat) : Int) := by rw [w64] <;> omega
    simp -dsimp only [↓R0, RA, simprocAttr, hc, f2, f8, f14, f15, f96, f98, hix, rowsS_get hil, hdr.lnV]
    refine hCall_c (d23 w2.1 (show r[i].size ≤ 900000 by omega) hls w1) ?_
    rintro _ st2 ⟨t2, s2, v1, v2, v3, v4, v5⟩
    simp -dsimp only [↓R0, RA, simprocAttr, f98, hwi]
    refine ⟨i + 1, by omega, (by first | trivial | (simp -dsimp only [R1, simprocAttr, f2]; done) | rfl), (by first | trivial | (simp -dsimp only [R1, simprocAttr, f8]; done) | rfl), (by first | trivial | (simp -dsimp only [R1, simprocAttr, f14]; done) | rfl), (by first | trivial | (simp -dsimp only [R1, simprocAttr, f15]; done) | rfl), (by first | trivial | (simp -dsimp only [R1, simprocAttr, f96]; done) | rfl), (by first | trivial | (simp -dsimp only [R1, simprocAttr, f97]; done) | rfl), (by first | trivial | (simp -dsimp only [R1, simprocAttr]; done) | rfl), by omega, t2, s2, v1, w2.trans v2, ?_, w4.trans v4, fun h => by omega, fun h0 h1 => ?_⟩
    · rcases v3 with v3 | v3
      · rw [v3]; exact w3
      · exact .inr v3
    · have : i = 0 := by omega
      subst this
      obtain ⟨rfl, rfl⟩ := w5 rfl
      exact v5
  simp -dsimp only [↓R0, RA, simprocAttr, hc]
  obtain ⟨hd22, hf22⟩ := d22n w1
  have hlt3 := get_lt w1
  refine regX_h x8_22 c8_22 ?_
  simp -dsimp only [↓R0, RA, simprocAttr, RQ, ↓R5, R6, f8, f15, w1, ld24, hCall_d hd22, k1, wr]
  refine ⟨by simp [fpOk, fl_p, fs_p, fp22, hf22, f8, f15]; omega, ?_⟩
  have h1s : ∀ c : Blk, (st1.set 1 c)[1]? = some c := fun c => get_set_eq k1
  simp -dsimp only [↓R0, RA, simprocAttr, f8, f15, h1s, ld24]
  refine ⟨_, do_fz (x := []) w2.1.ok, t1, [], s1, rfl, ⟨w2, w3.elim .inl (fun x => .inr (.inl x)), fun x => absurd x hls, fun _ => rfl, fun p e1 e2 e3 => ?_, fun _ _ _ x => absurd x hls, fun _ _ _ x => absurd x hrm, fun _ _ _ _ x => absurd x hcp⟩⟩
  obtain ⟨_, q1, q2⟩ := hnone p e1 e2
  subst q2
  exact (w6 (by simp) (by simp at hc hi; omega)).1 e3
end
end Go.Mm
end
