/- A part of the proof of FilesFitCardSaid: S44, S45, S46, S47, S48, S49, S50, S51, S52, S53. -/
import Derived.Test.YtamefnngdhbjiaaGreatDoorFitB3
set_option linter.all false
section
namespace Go.Mm
open Go.Proofs
variable [Globs] [GOk]
set_option maxRecDepth 8000
open Go.Proofs.Tryz renaming prog → TP
section
variable {t t' : Tr} {cwd s : Int} {o : ByteArray} {a b : D} {w K : Nat} {st : Store}
theorem s35r : Gives C TP 35 [.str ⟨#[114]⟩, .str ⟨#[114, 102]⟩] (.str ⟨#[]⟩) := ⟨80, fun st => by kernel_rfl⟩
theorem Gives.det {f : FuncId} {args : List D} {d d' : D} (h : Gives C TP f args d) (h' : Gives C TP f args d') : d = d' := by
  obtain ⟨k, h⟩ := h
  obtain ⟨k', h'⟩ := h'
  have := rcall_det (h []) (h' [])
  injection this
theorem s17r {p : ByteArray} (hp : Plain p) : Gives C TP 17 [.fsl 2 [.str dashr, .str p], .str ⟨#[114, 102]⟩] (.tup [.str rO, .fsl 1 [.str p], .bool true]) := by
  obtain ⟨_, k3, r2, rfl, k4, k5⟩ := s34 (s := ⟨#[]⟩) (set := ⟨#[114, 102]⟩) (by decide) (by decide)
  have k5 := k5 rfl
  subst k5
  refine gives_frz rfl rfl (by simp only [refsL, refs, List.append_nil]) (body_h b17 (by show 2 ≤ 49; decide) ?_)
  simp -dsimp only [↓R0, RA, simprocAttr]
  refine hLoop_i (fun x : Bool => if x then 0 else 1) (fun x fr' st' => fr' 1 = .str ⟨#[114, 102]⟩ ∧ ((x = false ∧ fr' 0 = .fsl 2 [.str dashr, .str p] ∧ fr' 7 = .str ⟨#[]⟩) ∨ (x = true ∧ fr' 0 = .fsl 1 [.str p] ∧ fr' 7 = .str rO))) false ⟨rfl, .inl ⟨rfl, rfl, rfl⟩⟩ ?_
  rintro x fr st ⟨h1, ⟨rfl, h0, h7⟩ | ⟨rfl, h0, h7⟩⟩
  · have i0 : idxS 1 (.fsl 2 [.str dashr, .str p]) (.int .i64 0) = some (.fptr [.str dashr, .str p] 0) := rfl
    have z2 : (dashr.size : Int) = 2 := rfl
    have x0 : idxT (.str dashr) (.int .i64 0) = some (.int .u8 45) := by kernel_rfl
    have sl1 : sliceT (.str dashr) (some (.int .i64 1)) none = some (.str ⟨#[114]⟩) := by kernel_rfl
    have sl2 : sliceL 1 (.fsl 2 [.str dashr, .str p]) (some (.int .i64 1)) none = some (.fsl 1 [.str p]) := rfl
    have ne1 : ¬ ((⟨#[114]⟩ : ByteArray) = ⟨#[45]⟩) := by decide
    have ne2 : ¬ ((⟨#[114, 102]⟩ : ByteArray) = ⟨#[]⟩) := by decide
    have ad : binM 0 .add (.str ⟨#[]⟩) (.str ⟨#[114]⟩) = some (.str rO) := by kernel_rfl
    have c02 : (0 : Int) < ((2 : Nat) : Int) := by decide
    have c12 : (1 : Int) < 2 := by decide
    simp -dsimp only [↓R0, RA, simprocAttr, h0, h1, h7, i0, z2, c02, c12, x0, sl1, sl2, decide_eq_false ne1, decide_eq_false ne2, hCall_g s35r, hCall_g k3, ad]
    exact ⟨true, by decide, trivial, .inr ⟨rfl, trivial⟩⟩
  · have i0 : idxS 1 (.fsl 1 [.str p]) (.int .i64 0) = some (.fptr [.str p] 0) := rfl
    have fin : ∀ st, fz st 8 (.tup [.str rO, .fsl 1 [.str p], .bool true]) = some (.tup [.str rO, .fsl 1 [.str p], .bool true]) := fun st => fz_0 (by simp only [refs, refsL, List.append_nil])
    have c01 : (0 : Int) < ((1 : Nat) : Int) := by decide
    simp -dsimp only [↓R0, RA, simprocAttr, h0, h1, h7, i0, c01]
    apply hIf_d <;> intro hc1
    · have hx0 : idxT (.str p) (.int .i64 0) = some (.int .u8 (atB p 0).toNat) := ixT_of (by omega) (by omega)
      simp -dsimp only [↓R0, RA, simprocAttr, hc1, h0, i0, hx0]
      apply hIf_d <;> intro hc3
      · exfalso
        rcases hp with hp | hp
        · omega
        · apply hp
          apply UInt8.toNat_inj.1
          have : (45 : UInt8).toNat = 45 := rfl
          omega
      · simp -dsimp only [↓R0, RA, simprocAttr, hc3, h0, h7]
        exact fin _
    · simp -dsimp only [↓R0, RA, simprocAttr, hc1, h0, h7]
      exact fin _
variable {nm : ByteArray} {l : List ByteArray} {d : D}
theorem d8_rm (hT : T t) (hd : Sl l.length (rowsS l) d) (hsz : (l.map ByteArray.size).sum ≤ 3000) (hln : l.length ≤ 1000) : DoG t cwd rmS l d := by
  refine mv_ex rfl rfl (ref4d hT.ok hd) (body_h b8 (by show 4 ≤ 122; decide) ?_)
  generalize ho0 : (⟨#[114, 102]⟩ : ByteArray) = o0
  have hkn : knwD rmS = .tup [.agg [.str o0, .int .i64 1, .int .i64 (-1)], .bool true] := by rw [← ho0]; rfl
  obtain ⟨_, g17, o, r, dr, ok, rfl, hdr, hO⟩ := s17 (set := o0) hd (by rw [← ho0]; decide) (by omega)
  have g16 := s16 (nm := rmS)
  rw [hkn] at g16
  generalize hnm : (rmS : ByteArray) = nm at *
  have hls : nm ≠ lsS := by rw [← hnm]; decide
  have hrr : ∀ p, l = [dashr, p] → Plain p → ok = true ∧ o = rO ∧ r = [p] := by
    intro p e hp
    have h1 := s17r hp
    rw [ho0] at h1
    have hdl : d = .fsl 2 [.str dashr, .str p] := by
      subst e
      rcases hd with ⟨_, h, _⟩ | ⟨_, h, _⟩ | h
      · simp at h
      · simp at h
      · exact h
    rw [hdl] at g17
    have e2 := Gives.det g17 h1
    injection e2 with e2
    injection e2 with e2 e3
    injection e3 with e3 e4
    injection e4 with e4 _
    injection e2 with e2
    injection e4 with e4
    refine ⟨e4, e2, ?_⟩
    have h3 := hdr e4
    rw [e3] at h3
    rcases h3 with ⟨h, _⟩ | ⟨h, _⟩ | h
    · cases h
    · cases h
    · injection h with h4 h5
      match r, h4, h5 with
      | [x], _, h5 => simp [rowsS] at h5; rw [h5]
  have herr : (ok = true → r = []) → DoR t cwd nm l t [] 2 := fun h => ⟨.refl hT, .inr (.inr ⟨.inl rfl, rfl⟩), fun _ => rfl, fun _ => rfl, fun _ _ _ x => absurd (hnm.trans x) (by decide), fun _ _ _ x => absurd x hls, fun p e1 e2 _ => (by
    obtain ⟨q1, _, q2⟩ := hrr p e1 e2
    rw [h q1] at q2; cases q2), fun _ _ _ _ x => absurd (hnm.trans x) (by decide)⟩
  have h18 := d18 (t := t) (cwd := cwd) (o := o) (a := .nilp) (b := .nils) (w := 3) (s := 0) (c := 102) (st := [Blk.cells 0 true 24 t.c, Blk.cells 0 true 24 [D.nils, D.int IntKind.i64 0, D.int IntKind.i64 0], Blk.cells 0 true 46 [D.str o0, D.int IntKind.i64 1, D.int IntKind.i64 (-1)], Blk.cells 0 true 57 [t.nd, D.int IntKind.i64 t.mx, D.int IntKind.i64 t.mb, D.int IntKind.i64 cwd, D.str o, D.nilp, D.nils, D.int IntKind.i64 0]]) rfl
  simp -dsimp only [↓R0, RA, simprocAttr, hCall_g g16, un, ld24, hCall_g g17, decide_eq_true hnm.symm, hCall_d h18]
  have cm : ¬ ((0 : Int) ≤ -1) := by decide
  have e12 : ¬ ((1 : Int) = 2) := by decide
  have e02 : ¬ ((0 : Int) = 2) := by decide
  refine hIf_b (fun hf => ?_) (fun hf => ?_)
  · simp -dsimp only [↓R0, RA, simprocAttr, hf, un, ld24]
    refine hIf_b (fun h1 => ?_) (fun h1 => ?_)
    rotate_left
    · simp -dsimp only [↓R0, RA, simprocAttr, h1, un, ld24]
      exact ⟨_, do_fz (x := []) hT.ok, t, [], 2, rfl, herr (fun h => by rw [h1] at h; cases h)⟩
    have hdr := hdr h1
    simp -dsimp only [↓R0, RA, simprocAttr, h1, un, hdr.lnV]
    apply hIf_d <;> intro h2
    · simp -dsimp only [↓R0, RA, simprocAttr, decide_eq_true h2, h1, un, ld24]
      exact ⟨_, do_fz (x := []) hT.ok, t, [], 2, rfl, herr (fun _ => List.eq_nil_of_length_eq_zero (by omega))⟩
    simp -dsimp only [↓R0, RA, simprocAttr, decide_eq_false h2, h1, un, hdr.lnV, cm, decide_eq_false hls, e02]
    generalize hS0 : ([Blk.cells 0 true 24 t.c, Blk.cells 0 true 24 [D.nils, D.int IntKind.i64 0, D.int IntKind.i64 0], Blk.cells 0 true 46 [D.str o0, (.int .i64 0), D.int IntKind.i64 (-1)], Blk.cells 0 true 57 [t.nd, D.int IntKind.i64 t.mx, D.int IntKind.i64 t.mb, D.int IntKind.i64 cwd, D.str o, D.nilp, D.nils, D.int IntKind.i64 0]] : Store) = S0
    have hS1 : S0[1]? = some (Blk.cells 0 true 24 [D.nils, D.int IntKind.i64 0, D.int IntKind.i64 0]) := by rw [← hS0]; rfl
    have hS3 : S0[3]? = some (Blk.cells 0 true 57 (wc t cwd o .nilp .nils 0)) := by rw [← hS0]; rfl
    have hrs : ∀ i (h : i < r.length), r[i].size ≤ 3000 := by
      intro i h
      obtain ⟨n, hn⟩ := hO.suf
      have hsub : ∀ x ∈ r, x ∈ l := by rw [hn]; exact fun x hx => List.mem_of_mem_drop hx
      have h1 : r[i] ∈ l := hsub _ (List.getElem_mem h)
      have := le_sum (List.mem_map.2 ⟨_, h1, rfl⟩ : r[i].size ∈ l.map ByteArray.size)
      omega
    have hrl : r.length ≤ 1000 := by
      obtain ⟨n, hn⟩ := hO.suf
      rw [hn, List.length_drop]; omega
    refine hLoop_i (fun i : Nat => r.length - i) (fun i fr' st' => fr' 2 = .str nm ∧ fr' 8 = .ptr 1 0 0 ∧ fr' 14 = dr ∧ fr' 15 = .ptr 3 0 0 ∧ fr' 96 = dr ∧ fr' 97 = .int .i64 r.length ∧ fr' 98 = .int .i64 i ∧ i ≤ r.length ∧
      ∃ t1 s1, st'[3]? = some (.cells 0 true 57 (wc t1 cwd o .nilp .nils s1)) ∧ Kept t cwd t1 ∧ (s1 = 0 ∨ s1 = 1) ∧ Lft 3 S0 st' ∧ (i = 0 → t1 = t ∧ s1 = 0) ∧ (∀ h0 : 0 < r.length, i = 1 → EachR t cwd o nm r[0] 0 t1 s1)) 0 ⟨rfl, rfl, rfl, rfl, rfl, rfl, rfl, Nat.zero_le _, t, 0, hS3, .refl hT, .inl rfl, .refl, fun _ => ⟨rfl, rfl⟩, fun _ h => by cases h⟩ ?_
    rintro i fr st1 ⟨f2, f8, f14, f15, f96, f97, f98, hi, t1, s1, w1, w2, w3, w4, w5, w6⟩
    have k1 : st1[1]? = some (Blk.cells 0 true 24 [D.nils, D.int IntKind.i64 0, D.int IntKind.i64 0]) := w4.get hS1 (by decide)
    simp -dsimp only [↓R0, RA, simprocAttr, f97, f98]
    apply hIf_d <;> intro hc
    · have hil : i < r.length := by omega
      have hix : idxS 1 dr (.int .i64 i) = some (.fptr (rowsS r) i) := by rw [hdr.ix (by omega) (by omega), Int.toNat_natCast, Nat.mul_one]
      have hri := hrs i hil
      have hwi : IntKind.i64.wrap ((i : Int) + 1) = ((i + 1 : Nat) : Int) := by rw [w64] <;> omega
      simp -dsimp only [↓R0, RA, simprocAttr, hc, f2, f8, f14, f15, f96, f98, hix, rowsS_get hil, hdr.lnV]
      refine hCall_c (d23 w2.1 (show r[i].size ≤ 900000 by omega) hls w1) ?_
      rintro _ st2 ⟨t2, s2, v1, v2, v3, v4, v5⟩
      simp -dsimp only [↓R0, RA, simprocAttr, f98, hwi]
      refine ⟨i + 1, by omega, (by first | trivial | (simp -dsimp only [R1, simprocAttr, f2]; done) | rfl), (by first | trivial | (simp -dsimp only [R1, simprocAttr, f8]; done) | rfl), (by first | trivial | (simp -dsimp only [R1, simprocAttr, f14]; done) | rfl), (by first | trivial | (simp -dsimp only [R1, simprocAttr, f15]; done) | rfl), (by first | trivial | (simp -dsimp only [R1, simprocAttr, f96]; done) | rfl), (by first | trivial | (simp -dsimp only [R1, simprocAttr, f97]; done) | rfl), (by first | trivial | (simp -dsimp only [R1, simprocAttr]; done) | rfl), by omega, t2, s2, v1, w2.trans v2, ?_, w4.trans v4, fun h => by omega, fun h0 h1 => ?_⟩
      · rcases v3 with v3 | v3
        · rw [v3]; exact w3
        · exact .inr v3
      · have : i = 0 := by omega
        subst this
        obtain ⟨rfl, rfl⟩ := w5 rfl
        exact v5
    simp -dsimp only [↓R0, RA, simprocAttr, hc]
    obtain ⟨hd22, hf22⟩ := d22n w1
    have hlt3 := get_lt w1
    refine regX_h x8_22 c8_22 ?_
    simp -dsimp only [↓R0, RA, simprocAttr, RQ, ↓R5, R6, f8, f15, w1, ld24, hCall_d hd22, k1, wr]
    refine ⟨by simp [fpOk, fl_p, fs_p, fp22, hf22, f8, f15]; omega, ?_⟩
    have h1s : ∀ c : Blk, (st1.set 1 c)[1]? = some c := fun c => get_set_eq k1
    simp -dsimp only [↓R0, RA, simprocAttr, f8, f15, h1s, ld24]
    refine ⟨_, do_fz (x := []) w2.1.ok, t1, [], s1, rfl, ⟨w2, w3.elim .inl (fun x => .inr (.inl x)), fun x => absurd x hls, fun _ => rfl, fun _ _ _ x => absurd (hnm.trans x) (by decide), fun _ _ _ x => absurd x hls, fun p e1 e2 e3 => ?_, fun _ _ _ _ x => absurd (hnm.trans x) (by decide)⟩⟩
    obtain ⟨_, q1, q2⟩ := hrr p e1 e2
    subst q2
    have h9 := (w6 (by simp) (by simp at hc hi; omega)).2 e3
    rw [q1] at h9
    exact h9
  · simp -dsimp only [↓R0, RA, simprocAttr, hf, un, ld24]
    refine hIf_b (fun h1 => ?_) (fun h1 => ?_)
    rotate_left
    · simp -dsimp only [↓R0, RA, simprocAttr, h1, un, ld24]
      exact ⟨_, do_fz (x := []) hT.ok, t, [], 2, rfl, herr (fun h => by rw [h1] at h; cases h)⟩
    have hdr := hdr h1
    simp -dsimp only [↓R0, RA, simprocAttr, h1, un, hdr.lnV]
    apply hIf_d <;> intro h2
    · simp -dsimp only [↓R0, RA, simprocAttr, decide_eq_true h2, h1, un, ld24]
      exact ⟨_, do_fz (x := []) hT.ok, t, [], 2, rfl, herr (fun _ => List.eq_nil_of_length_eq_zero (by omega))⟩
    simp -dsimp only [↓R0, RA, simprocAttr, decide_eq_false h2, h1, un, hdr.lnV, cm, decide_eq_false hls, e12]
    generalize hS0 : ([Blk.cells 0 true 24 t.c, Blk.cells 0 true 24 [D.nils, D.int IntKind.i64 0, D.int IntKind.i64 0], Blk.cells 0 true 46 [D.str o0, (.int .i64 1), D.int IntKind.i64 (-1)], Blk.cells 0 true 57 [t.nd, D.int IntKind.i64 t.mx, D.int IntKind.i64 t.mb, D.int IntKind.i64 cwd, D.str o, D.nilp, D.nils, D.int IntKind.i64 0]] : Store) = S0
    have hS1 : S0[1]? = some (Blk.cells 0 true 24 [D.nils, D.int IntKind.i64 0, D.int IntKind.i64 0]) := by rw [← hS0]; rfl
    have hS3 : S0[3]? = some (Blk.cells 0 true 57 (wc t cwd o .nilp .nils 0)) := by rw [← hS0]; rfl
    have hrs : ∀ i (h : i < r.length), r[i].size ≤ 3000 := by
      intro i h
      obtain ⟨n, hn⟩ := hO.suf
      have hsub : ∀ x ∈ r, x ∈ l := by rw [hn]; exact fun x hx => List.mem_of_mem_drop hx
      have h1 : r[i] ∈ l := hsub _ (List.getElem_mem h)
      have := le_sum (List.mem_map.2 ⟨_, h1, rfl⟩ : r[i].size ∈ l.map ByteArray.size)
      omega
    have hrl : r.length ≤ 1000 := by
      obtain ⟨n, hn⟩ := hO.suf
      rw [hn, List.length_drop]; omega
    refine hLoop_i (fun i : Nat => r.length - i) (fun i fr' st' => fr' 2 = .str nm ∧ fr' 8 = .ptr 1 0 0 ∧ fr' 14 = dr ∧ fr' 15 = .ptr 3 0 0 ∧ fr' 96 = dr ∧ fr' 97 = .int .i64 r.length ∧ fr' 98 = .int .i64 i ∧ i ≤ r.length ∧
      ∃ t1 s1, st'[3]? = some (.cells 0 true 57 (wc t1 cwd o .nilp .nils s1)) ∧ Kept t cwd t1 ∧ (s1 = 0 ∨ s1 = 1) ∧ Lft 3 S0 st' ∧ (i = 0 → t1 = t ∧ s1 = 0) ∧ (∀ h0 : 0 < r.length, i = 1 → EachR t cwd o nm r[0] 0 t1 s1)) 0 ⟨rfl, rfl, rfl, rfl, rfl, rfl, rfl, Nat.zero_le _, t, 0, hS3, .refl hT, .inl rfl, .refl, fun _ => ⟨rfl, rfl⟩, fun _ h => by cases h⟩ ?_
    rintro i fr st1 ⟨f2, f8, f14, f15, f96, f97, f98, hi, t1, s1, w1, w2, w3, w4, w5, w6⟩
    have k1 : st1[1]? = some (Blk.cells 0 true 24 [D.nils, D.int IntKind.i64 0, D.int IntKind.i64 0]) := w4.get hS1 (by decide)
    simp -dsimp only [↓R0, RA, simprocAttr, f97, f98]
    apply hIf_d <;> intro hc
    · have hil : i < r.length := by omega
      have hix : idxS 1 dr (.int .i64 i) = some (.fptr (rowsS r) i) := by rw [hdr.ix (by omega) (by omega), Int.toNat_natCast, Nat.mul_one]
      have hri := hrs i hil
      have hwi : IntKind.i64.wrap ((i : Int) + 1) = ((i + 1 : Nat) : Int) := by rw [w64] <;> omega
      simp -dsimp only [↓R0, RA, simprocAttr, hc, f2, f8, f14, f15, f96, f98, hix, rowsS_get hil, hdr.lnV]
      refine hCall_c (d23 w2.1 (show r[i].size ≤ 900000 by omega) hls w1) ?_
      rintro _ st2 ⟨t2, s2, v1, v2, v3, v4, v5⟩
      simp -dsimp only [↓R0, RA, simprocAttr, f98, hwi]
      refine ⟨i + 1, by omega, (by first | trivial | (simp -dsimp only [R1, simprocAttr, f2]; done) | rfl), (by first | trivial | (simp -dsimp only [R1, simprocAttr, f8]; done) | rfl), (by first | trivial | (simp -dsimp only [R1, simprocAttr, f14]; done) | rfl), (by first | trivial | (simp -dsimp only [R1, simprocAttr, f15]; done) | rfl), (by first | trivial | (simp -dsimp only [R1, simprocAttr, f96]; done) | rfl), (by first | trivial | (simp -dsimp only [R1, simprocAttr, f97]; done) | rfl), (by first | trivial | (simp -dsimp only [R1, simprocAttr]; done) | rfl), by omega, t2, s2, v1, w2.trans v2, ?_, w4.trans v4, fun h => by omega, fun h0 h1 => ?_⟩
      · rcases v3 with v3 | v3
        · rw [v3]; exact w3
        · exact .inr v3
      · have : i = 0 := by omega
        subst this
        obtain ⟨rfl, rfl⟩ := w5 rfl
        exact v5
    simp -dsimp only [↓R0, RA, simprocAttr, hc]
    obtain ⟨hd22, hf22⟩ := d22n w1
    have hlt3 := get_lt w1
    refine regX_h x8_22 c8_22 ?_
    simp -dsimp only [↓R0, RA, simprocAttr, RQ, ↓R5, R6, f8, f15, w1, ld24, hCall_d hd22, k1, wr]
    refine ⟨by simp [fpOk, fl_p, fs_p, fp22, hf22, f8, f15]; omega, ?_⟩
    have h1s : ∀ c : Blk, (st1.set 1 c)[1]? = some c := fun c => get_set_eq k1
    simp -dsimp only [↓R0, RA, simprocAttr, f8, f15, h1s, ld24]
    refine ⟨_, do_fz (x := []) w2.1.ok, t1, [], s1, rfl, ⟨w2, w3.elim .inl (fun x => .inr (.inl x)), fun x => absurd x hls, fun _ => rfl, fun _ _ _ x => absurd (hnm.trans x) (by decide), fun _ _ _ x => absurd x hls, fun p e1 e2 e3 => ?_, fun _ _ _ _ x => absurd (hnm.trans x) (by decide)⟩⟩
    obtain ⟨_, q1, q2⟩ := hrr p e1 e2
    subst q2
    have h9 := (w6 (by simp) (by simp at hc hi; omega)).2 e3
    rw [q1] at h9
    exact h9
end
section
variable {t t' : Tr} {cwd s : Int} {o : ByteArray} {a b : D} {w K : Nat} {st : Store}
variable {nm : ByteArray} {l : List ByteArray} {d : D}
theorem suf_size {r : List ByteArray} (h : ∃ n, r = l.drop n) (hsz : (l.map ByteArray.size).sum ≤ 3000) : ∀ x ∈ r, x.size ≤ 3000 := by
  obtain ⟨n, hn⟩ := h
  intro x hx
  have h1 : x ∈ l := by rw [hn] at hx; exact List.mem_of_mem_drop hx
  have := le_sum (List.mem_map.2 ⟨_, h1, rfl⟩ : x.size ∈ l.map ByteArray.size)
  omega
theorem suf_len {r : List ByteArray} (h : ∃ n, r = l.drop n) : r.length ≤ l.length := by
  obtain ⟨n, hn⟩ := h
  rw [hn, List.length_drop]; omega
theorem d8_two {o0 : ByteArray} {mst : Int} (hT : T t) (hd : Sl l.length (rowsS l) d) (hsz : (l.map ByteArray.size).sum ≤ 3000) (hln : l.length ≤ 1000) (hk : knw nm = some (o0, 2, mst)) : DoG t cwd nm l d := by
  refine mv_ex rfl rfl (ref4d hT.ok hd) (body_h b8 (by show 4 ≤ 122; decide) ?_)
  have hkn : knwD nm = .tup [.agg [.str o0, .int .i64 2, .int .i64 mst], .bool true] := by unfold knwD; rw [hk]
  have ho0 : o0.size ≤ 1000 := by
    unfold knw at hk
    repeat' split at hk
    all_goals first | (cases hk; done) | (injection hk with hk; injection hk with hk; subst hk; decide)
  have nnm : ∀ x : ByteArray, (knw x).map (·.2.1) ≠ some 2 → nm ≠ x := by
    rintro x hx rfl
    rw [hk] at hx; exact hx rfl
  have hrm : nm ≠ rmS := nnm _ (by decide)
  have hls : nm ≠ lsS := nnm _ (by decide)
  have hto : nm ≠ touchS := nnm _ (by decide)
  obtain ⟨_, g17, o, r, dr, ok, rfl, hdr, hO⟩ := s17 (set := o0) hd ho0 (by omega)
  have g16 := s16 (nm := nm)
  rw [hkn] at g16
  have hnone : ∀ p q, l = [p, q] → Plain p → ok = true ∧ o = emS ∧ r = [p, q] := by
    rintro p q rfl hp
    refine hO.none ?_
    rintro s hs
    injection hs with hs
    subst hs; exact hp
  have herr : (ok = true → r.length = 2 → nm ≠ cpS) → DoR t cwd nm l t [] 2 := fun h => DoR.err hT (.inl rfl) (fun p _ _ e => e.elim hto hls) (fun _ _ => hrm) (fun p q e1 e2 => by
    obtain ⟨q1, _, q2⟩ := hnone p q e1 e2
    exact h q1 (by rw [q2]; rfl))
  simp -dsimp only [↓R0, RA, simprocAttr, hCall_g g16, un, ld24, hCall_g g17, decide_eq_false hrm]
  refine hIf_b (fun h1 => ?_) (fun h1 => ?_)
  rotate_left
  · simp -dsimp only [↓R0, RA, simprocAttr, h1, un, ld24]
    exact ⟨_, do_fz (x := []) hT.ok, t, [], 2, rfl, herr (fun h => by rw [h1] at h; cases h)⟩
  have hdr := hdr h1
  simp -dsimp only [↓R0, RA, simprocAttr, h1, un, hdr.lnV]
  apply hIf_d <;> intro h2
  · simp -dsimp only [↓R0, RA, simprocAttr, decide_eq_true h2, h1, un, ld24]
    exact ⟨_, do_fz (x := []) hT.ok, t, [], 2, rfl, herr (fun _ h => by omega)⟩
  simp -dsimp only [↓R0, RA, simprocAttr, decide_eq_false h2, h1, un, hdr.lnV]
  have fin : ∀ (fr : Fr) (st1 : Store), True := fun _ _ => trivial
  apply hIf_d <;> intro h3
  · simp -dsimp only [↓R0, RA, simprocAttr, decide_eq_true h3, decide_eq_false h2, h1, un, hdr.lnV]
    apply hIf_d <;> intro h4
    · simp -dsimp only [↓R0, RA, simprocAttr, decide_eq_true h3, decide_eq_true h4, decide_eq_false h2, h1, un, ld24]
      refine ⟨_, do_fz (x := []) hT.ok, t, [], 2, rfl, herr (fun _ _ => ?_)⟩
      rintro rfl
      have : (knw cpS).map (·.2.2) = some (-1) := by decide
      rw [hk] at this
      injection this with this
      simp only [] at this
      omega
    · simp -dsimp only [↓R0, RA, simprocAttr, decide_eq_true h3, decide_eq_false h4, decide_eq_false h2, h1, un, hdr.lnV, decide_eq_false hls]
      refine hCall_c (d21 (t := t) (cwd := cwd) (o := o) (a := .nilp) (b := .nils) (s := 0) (w := 3) hT hdr (by omega) (Nat.le_trans (suf_len hO.suf) hln) (suf_size hO.suf hsz) rfl) ?_
      rintro _ st1 ⟨t1, s1, w1, w2, w3, w4, w5⟩
      have k1 : st1[1]? = some (Blk.cells 0 true 24 [D.nils, D.int IntKind.i64 0, D.int IntKind.i64 0]) := w4.get rfl (by decide)
      simp -dsimp only [↓R0, RA, simprocAttr]
      obtain ⟨hd22, hf22⟩ := d22n w1
      have hlt3 := get_lt w1
      refine regX_h x8_16 c8_16 ?_
      simp -dsimp only [↓R0, RA, simprocAttr, RQ, ↓R5, R6, un, w1, ld24, hCall_d hd22, k1, wr]
      refine ⟨by simp [fpOk, fl_p, fs_p, fp22, hf22, un]; omega, ?_⟩
      have h1s : ∀ c : Blk, (st1.set 1 c)[1]? = some c := fun c => get_set_eq k1
      simp -dsimp only [↓R0, RA, simprocAttr, un, h1s, ld24]
      refine ⟨_, do_fz (x := []) w2.1.ok, t1, [], s1, rfl, ⟨w2, w3.elim .inl (fun x => .inr (.inl x)), fun x => absurd x hls, fun _ => rfl, fun _ _ _ x => absurd x hto, fun _ _ _ x => absurd x hls, fun _ _ _ x => absurd x hrm, fun p q e1 e2 e3 => ?_⟩⟩
      obtain ⟨_, q1, q2⟩ := hnone p q e1 e2
      have h9 := w5 p q q2
      rw [e3] at h9
      exact h9
  · simp -dsimp only [↓R0, RA, simprocAttr, decide_eq_false h3, decide_eq_false h2, h1, un, hdr.lnV, decide_eq_false hls]
    refine hCall_c (d21 (t := t) (cwd := cwd) (o := o) (a := .nilp) (b := .nils) (s := 0) (w := 3) hT hdr (by omega) (Nat.le_trans (suf_len hO.suf) hln) (suf_size hO.suf hsz) rfl) ?_
    rintro _ st1 ⟨t1, s1, w1, w2, w3, w4, w5⟩
    have k1 : st1[1]? = some (Blk.cells 0 true 24 [D.nils, D.int IntKind.i64 0, D.int IntKind.i64 0]) := w4.get rfl (by decide)
    simp -dsimp only [↓R0, RA, simprocAttr]
    obtain ⟨hd22, hf22⟩ := d22n w1
    have hlt3 := get_lt w1
    refine regX_h x8_16 c8_16 ?_
    simp -dsimp only [↓R0, RA, simprocAttr, RQ, ↓R5, R6, un, w1, ld24, hCall_d hd22, k1, wr]
    refine ⟨by simp [fpOk, fl_p, fs_p, fp22, hf22, un]; omega, ?_⟩
    have h1s : ∀ c : Blk, (st1.set 1 c)[1]? = some c := fun c => get_set_eq k1
    simp -dsimp only [↓R0, RA, simprocAttr, un, h1s, ld24]
    refine ⟨_, do_fz (x := []) w2.1.ok, t1, [], s1, rfl, ⟨w2, w3.elim .inl (fun x => .inr (.inl x)), fun x => absurd x hls, fun _ => rfl, fun _ _ _ x => absurd x hto, fun _ _ _ x => absurd x hls, fun _ _ _ x => absurd x hrm, fun p q e1 e2 e3 => ?_⟩⟩
    obtain ⟨_, q1, q2⟩ := hnone p q e1 e2
    have h9 := w5 p q q2
    rw [e3] at h9
    exact h9
end
section
variable {t t' : Tr} {cwd s : Int} {o : ByteArray} {a b : D} {w K : Nat} {st : Store}
variable {nm : ByteArray} {l : List ByteArray} {d : D}
abbrev dotS : ByteArray := ⟨#[46]⟩
theorem d8_ls (hT : T t) (hd : Sl l.length (rowsS l) d) (hsz : (l.map ByteArray.size).sum ≤ 3000) (hln : l.length ≤ 20) : DoG t cwd lsS l d := by
  refine mv_ex rfl rfl (ref4d hT.ok hd) (body_h b8 (by show 4 ≤ 122; decide) ?_)
  generalize ho0 : (⟨#[97, 49]⟩ : ByteArray) = o0
  have hkn : knwD lsS = .tup [.agg [.str o0, .int .i64 0, .int .i64 (-1)], .bool true] := by rw [← ho0]; rfl
  obtain ⟨_, g17, o, r, dr, ok, rfl, hdr, hO⟩ := s17 (set := o0) hd (by rw [← ho0]; decide) (by omega)
  have g16 := s16 (nm := lsS)
  rw [hkn] at g16
  have hrm : ¬ lsS = rmS := by decide
  have hto : lsS ≠ touchS := by decide
  have hcp : lsS ≠ cpS := by decide
  have hnone : ∀ p, l = [p] → Plain p → ok = true ∧ o = emS ∧ r = [p] := by
    rintro p rfl hp
    refine hO.none ?_
    rintro s hs
    injection hs with hs
    subst hs; exact hp
  simp -dsimp only [↓R0, RA, simprocAttr, hCall_g g16, un, ld24, hCall_g g17, decide_eq_false hrm]
  refine hIf_b (fun h1 => ?_) (fun h1 => ?_)
  rotate_left
  · simp -dsimp only [↓R0, RA, simprocAttr, h1, un, ld24]
    refine ⟨_, do_fz (x := []) hT.ok, t, [], 2, rfl, ⟨.refl hT, .inr (.inr ⟨.inl rfl, rfl⟩), fun _ => rfl, fun _ => rfl, fun _ _ _ x => absurd x hto, fun p e1 e2 => ?_, fun _ _ _ x => absurd x hrm, fun _ _ _ _ x => absurd x hcp⟩⟩
    have := (hnone p e1 e2).1
    rw [h1] at this; cases this
  have hdr := hdr h1
  have hdc : D.cells? dr = some [dr] := by rcases hdr with ⟨rfl, _⟩ | ⟨rfl, _⟩ | rfl <;> rfl
  have hlt0 : ¬ ((r.length : Int) < 0) := by omega
  have cm : ¬ ((0 : Int) ≤ -1) := by decide
  have e02 : ¬ ((0 : Int) = 2) := by decide
  have hrl := suf_len hO.suf
  have hrs := suf_size hO.suf hsz
  simp -dsimp only [↓R0, RA, simprocAttr, h1, un, hdr.lnV, hlt0, cm, hCall_d (d20 hdc)]
  refine hCall_c (d19 (l := r) (pb := 4) hdr (by omega) rfl) ?_
  rintro rr st1 ⟨⟨hr0, rfl⟩ | ⟨id, ver, rfl, q2', q2, q3⟩, hk⟩
  · have kk : ∀ i : Nat, i < 5 → st1[i]? = _ := fun i hi => hk i (by simpa using hi)
    have hle : 5 ≤ st1.length := by
      have := get_lt (kk 4 (by decide)); omega
    simp -dsimp only [↓R0, RA, simprocAttr]
    have z2 : ((st1 ++ [Blk.cells 0 true 9 [.str dotS]]))[2]? = some (.cells 0 true 46 [D.str o0, D.int IntKind.i64 0, D.int IntKind.i64 (-1)]) := (get_app (kk 2 (by decide)))
    have z3 : ((st1 ++ [Blk.cells 0 true 9 [.str dotS]]))[3]? = some (.cells 0 true 57 (wc t cwd o .nilp .nils 0)) := (get_app (kk 3 (by decide)))
    have z1 : ((st1 ++ [Blk.cells 0 true 9 [.str dotS]]))[1]? = some (Blk.cells 0 true 24 [D.nils, D.int IntKind.i64 0, D.int IntKind.i64 0]) := (get_app (kk 1 (by decide)))
    have zl : ((st1 ++ [Blk.cells 0 true 9 [.str dotS]]))[st1.length]? = some (.cells 0 true 9 (([dotS]).map .str)) := (by rw [app_get0]; rfl)
    have zi := get_lt zl
    have z3l := get_lt z3
    have zn : ([dotS]).length = 1 := rfl
    have hall : ∀ x ∈ [dotS], x.size ≤ 3000 := (fun x hx => by rcases List.mem_singleton.1 hx with rfl; decide)
    simp -dsimp only [↓R0, RA, simprocAttr, z2, e02]
    refine hLoop_i (fun i : Nat => 1 - i) (fun i fr' st' => fr' 2 = .str lsS ∧ fr' 8 = .ptr 1 0 0 ∧ fr' 14 = .osl st1.length 0 1 0 1 ∧ fr' 15 = .ptr 3 0 0 ∧ fr' 96 = .osl st1.length 0 1 0 1 ∧ fr' 97 = .int .i64 (1 : Nat) ∧ fr' 98 = .int .i64 i ∧ i ≤ 1 ∧
      ∃ a' b' s' x', st'[3]? = some (.cells 0 true 57 (wc t cwd o a' b' s')) ∧ Bld ((st1 ++ [Blk.cells 0 true 9 [.str dotS]])).length st' 3 a' b' x' ∧ (s' = 0 ∨ s' = 1) ∧ Lf 3 ((st1 ++ [Blk.cells 0 true 9 [.str dotS]])).length ((st1 ++ [Blk.cells 0 true 9 [.str dotS]])) st' ∧ x'.length ≤ i * 200000 ∧ (i = 0 → s' = 0 ∧ x' = []) ∧
        (∀ p, i = 1 → ([dotS])[0]? = some p → (t.walk cwd p true).2 = 0 → (t.at (t.walk cwd p true).1).kind ≠ 2 → s' = 0 ∧ x' = bl p ++ [10])) 0
      ⟨rfl, rfl, rfl, rfl, rfl, by first | rfl | (show D.int _ _ = _; rfl), rfl, Nat.zero_le _, .nilp, .nils, 0, [], z3, ⟨.inl rfl, .inl ⟨rfl, rfl⟩⟩, .inl rfl, .refl, by simp, fun _ => ⟨rfl, rfl⟩, fun _ h => by cases h⟩ ?_
    rintro i fr st2 ⟨f2, f8, f14, f15, f96, f97, f98, hi, a1, b1, s1, x1, w1, w2, w3, w4, w5, w6, w7⟩
    have k1 : st2[1]? = some (Blk.cells 0 true 24 [D.nils, D.int IntKind.i64 0, D.int IntKind.i64 0]) := by rw [w4.2 1 (by omega) (by decide)]; exact z1
    have kl : st2[st1.length]? = some (.cells 0 true 9 (([dotS]).map .str)) := by rw [w4.2 _ zi (by omega)]; exact zl
    simp -dsimp only [↓R0, RA, simprocAttr, f97, f98]
    apply hIf_d <;> intro hc
    · have hil : i < ([dotS]).length := by omega
      have hix : idxS 1 (.osl st1.length 0 1 0 1) (.int .i64 i) = some (.ptr st1.length 0 i) := by
        simp only [idxS, idx]
        rw [if_pos (by omega)]
        simp
      have hget : (([dotS]).map D.str)[i]? = some (.str ([dotS])[i]) := by rw [List.getElem?_map, List.getElem?_eq_getElem hil]; rfl
      have hri : ([dotS])[i].size ≤ 3000 := hall _ (List.getElem_mem hil)
      have hwi : IntKind.i64.wrap ((i : Int) + 1) = ((i + 1 : Nat) : Int) := by rw [w64] <;> omega
      simp -dsimp only [↓R0, RA, simprocAttr, hc, f2, f8, f14, f15, f96, f98, hix, kl, hget]
      refine hCall_c (d23l (x := x1) hT hri w1 w2 ⟨z3l, w4.1⟩ (by omega)) ?_
      rintro _ st3 ⟨a2, b2, s2, x2, v1, v2, v3, v4, v5, v6⟩
      simp -dsimp only [↓R0, RA, simprocAttr, f98, hwi]
      refine ⟨i + 1, by omega, (by first | trivial | (simp -dsimp only [R1, simprocAttr, f2]; done) | rfl), (by first | trivial | (simp -dsimp only [R1, simprocAttr, f8]; done) | rfl), (by first | trivial | (simp -dsimp only [R1, simprocAttr, f14]; done) | rfl), (by first | trivial | (simp -dsimp only [R1, simprocAttr, f15]; done) | rfl), (by first | trivial | (simp -dsimp only [R1, simprocAttr, f96]; done) | rfl), (by first | trivial | (simp -dsimp only [R1, simprocAttr, f97]; done) | rfl), (by first | trivial | (simp -dsimp only [R1, simprocAttr]; done) | rfl), by omega, a2, b2, s2, x2, v1, v2, ?_, w4.trans v4, by omega, fun h => by omega, fun p h0 h1 g1 g2 => ?_⟩
      · rcases v3 with v3 | v3
        · rw [v3]; exact w3
        · exact .inr v3
      · have : i = 0 := by omega
        subst this
        obtain ⟨rfl, rfl⟩ := w6 rfl
        have h1' : ([dotS])[0]'hil = p := by first | (rw [List.getElem?_eq_getElem hil] at h1; exact Option.some.inj h1) | exact Option.some.inj h1
        rw [h1'] at v6
        obtain ⟨e1, e2⟩ := v6 g1 g2
        exact ⟨e1, by rw [e2]; rfl⟩
    simp -dsimp only [↓R0, RA, simprocAttr, hc]
    obtain ⟨stB, hd22, hlB, hB1, hB2⟩ := d22 w1 w2 (by omega)
    have hlt3 := get_lt w1
    have hB3 : stB[3]? = _ := (hB1 3 (by omega)).trans w1
    have hB1 : stB[1]? = _ := (hB1 1 (by omega)).trans k1
    have hn3 : 3 ∉ f22 [.ptr 3 0 5] st2 := hB2 3 (by omega)
    have hn1 : 1 ∉ f22 [.ptr 3 0 5] st2 := hB2 1 (by omega)
    refine regX_h x8_22 c8_22 ?_
    simp -dsimp only [↓R0, RA, simprocAttr, RQ, ↓R5, R6, f8, f15, w1, ld24, hCall_d hd22, k1, hB3, hB1, wr]
    refine ⟨by simp [fpOk, fl_p, fs_p, fp22, f8, f15, hn3, hn1]; omega, ?_⟩
    have h1s : ∀ c : Blk, (stB.set 1 c)[1]? = some c := fun c => get_set_eq hB1
    simp -dsimp only [↓R0, RA, simprocAttr, f8, f15, h1s, ld24]
    refine ⟨_, do_fz (x := x1) hT.ok, t, x1, s1, rfl, ⟨.refl hT, w3.elim .inl (fun x => .inr (.inl x)), fun _ => rfl, fun x => absurd rfl x, fun _ _ _ x => absurd x hto, fun p e1 e2 _ g1 g2 => ?_, fun _ _ _ x => absurd x hrm, fun _ _ _ _ x => absurd x hcp⟩⟩
    obtain ⟨_, _, e⟩ := hnone p e1 e2
    rw [hr0] at e; cases e
  · have kk : ∀ i : Nat, i < 5 → st1[i]? = _ := fun i hi => hk i (by simpa using hi)
    have hle := get_lt q3
    have hne : ¬ ((r.length : Int) = 0) := by
      have := List.length_pos_iff.2 q2
      omega
    have hsl : (sortB r).length = r.length := sortB_len r
    have hq2 : 5 < id := by simpa using q2'
    simp -dsimp only [↓R0, RA, simprocAttr, decide_eq_false hne]
    have z2 : (st1)[2]? = some (.cells 0 true 46 [D.str o0, D.int IntKind.i64 0, D.int IntKind.i64 (-1)]) := (kk 2 (by decide))
    have z3 : (st1)[3]? = some (.cells 0 true 57 (wc t cwd o .nilp .nils 0)) := (kk 3 (by decide))
    have z1 : (st1)[1]? = some (Blk.cells 0 true 24 [D.nils, D.int IntKind.i64 0, D.int IntKind.i64 0]) := (kk 1 (by decide))
    have zl : (st1)[id]? = some (.cells ver true 9 (((sortB r)).map .str)) := q3
    have zi := get_lt zl
    have z3l := get_lt z3
    have zn : ((sortB r)).length = r.length := hsl
    have hall : ∀ x ∈ (sortB r), x.size ≤ 3000 := (fun x hx => hrs x (sortB_mem r hx))
    simp -dsimp only [↓R0, RA, simprocAttr, z2, e02]
    refine hLoop_i (fun i : Nat => r.length - i) (fun i fr' st' => fr' 2 = .str lsS ∧ fr' 8 = .ptr 1 0 0 ∧ fr' 14 = .osl id ver 1 0 r.length ∧ fr' 15 = .ptr 3 0 0 ∧ fr' 96 = .osl id ver 1 0 r.length ∧ fr' 97 = .int .i64 (r.length : Nat) ∧ fr' 98 = .int .i64 i ∧ i ≤ r.length ∧
      ∃ a' b' s' x', st'[3]? = some (.cells 0 true 57 (wc t cwd o a' b' s')) ∧ Bld (st1).length st' 3 a' b' x' ∧ (s' = 0 ∨ s' = 1) ∧ Lf 3 (st1).length (st1) st' ∧ x'.length ≤ i * 200000 ∧ (i = 0 → s' = 0 ∧ x' = []) ∧
        (∀ p, i = 1 → ((sortB r))[0]? = some p → (t.walk cwd p true).2 = 0 → (t.at (t.walk cwd p true).1).kind ≠ 2 → s' = 0 ∧ x' = bl p ++ [10])) 0
      ⟨rfl, rfl, rfl, rfl, rfl, by first | rfl | (show D.int _ _ = _; rfl), rfl, Nat.zero_le _, .nilp, .nils, 0, [], z3, ⟨.inl rfl, .inl ⟨rfl, rfl⟩⟩, .inl rfl, .refl, by simp, fun _ => ⟨rfl, rfl⟩, fun _ h => by cases h⟩ ?_
    rintro i fr st2 ⟨f2, f8, f14, f15, f96, f97, f98, hi, a1, b1, s1, x1, w1, w2, w3, w4, w5, w6, w7⟩
    have k1 : st2[1]? = some (Blk.cells 0 true 24 [D.nils, D.int IntKind.i64 0, D.int IntKind.i64 0]) := by rw [w4.2 1 (by omega) (by decide)]; exact z1
    have kl : st2[id]? = some (.cells ver true 9 (((sortB r)).map .str)) := by rw [w4.2 _ zi (by omega)]; exact zl
    simp -dsimp only [↓R0, RA, simprocAttr, f97, f98]
    apply hIf_d <;> intro hc
    · have hil : i < ((sortB r)).length := by omega
      have hix : idxS 1 (.osl id ver 1 0 r.length) (.int .i64 i) = some (.ptr id ver i) := by
        simp only [idxS, idx]
        rw [if_pos (by omega)]
        simp
      have hget : (((sortB r)).map D.str)[i]? = some (.str ((sortB r))[i]) := by rw [List.getElem?_map, List.getElem?_eq_getElem hil]; rfl
      have hri : ((sortB r))[i].size ≤ 3000 := hall _ (List.getElem_mem hil)
      have hwi : IntKind.i64.wrap ((i : Int) + 1) = ((i + 1 : Nat) : Int) := by rw [w64] <;> omega
      simp -dsimp only [↓R0, RA, simprocAttr, hc, f2, f8, f14, f15, f96, f98, hix, kl, hget]
      refine hCall_c (d23l (x := x1) hT hri w1 w2 ⟨z3l, w4.1⟩ (by omega)) ?_
      rintro _ st3 ⟨a2, b2, s2, x2, v1, v2, v3, v4, v5, v6⟩
      simp -dsimp only [↓R0, RA, simprocAttr, f98, hwi]
      refine ⟨i + 1, by omega, (by first | trivial | (simp -dsimp only [R1, simprocAttr, f2]; done) | rfl), (by first | trivial | (simp -dsimp only [R1, simprocAttr, f8]; done) | rfl), (by first | trivial | (simp -dsimp only [R1, simprocAttr, f14]; done) | rfl), (by first | trivial | (simp -dsimp only [R1, simprocAttr, f15]; done) | rfl), (by first | trivial | (simp -dsimp only [R1, simprocAttr, f96]; done) | rfl), (by first | trivial | (simp -dsimp only [R1, simprocAttr, f97]; done) | rfl), (by first | trivial | (simp -dsimp only [R1, simprocAttr]; done) | rfl), by omega, a2, b2, s2, x2, v1, v2, ?_, w4.trans v4, by omega, fun h => by omega, fun p h0 h1 g1 g2 => ?_⟩
      · rcases v3 with v3 | v3
        · rw [v3]; exact w3
        · exact .inr v3
      · have : i = 0 := by omega
        subst this
        obtain ⟨rfl, rfl⟩ := w6 rfl
        have h1' : ((sortB r))[0]'hil = p := by first | (rw [List.getElem?_eq_getElem hil] at h1; exact Option.some.inj h1) | exact Option.some.inj h1
        rw [h1'] at v6
        obtain ⟨e1, e2⟩ := v6 g1 g2
        exact ⟨e1, by rw [e2]; rfl⟩
    simp -dsimp only [↓R0, RA, simprocAttr, hc]
    obtain ⟨stB, hd22, hlB, hB1, hB2⟩ := d22 w1 w2 (by omega)
    have hlt3 := get_lt w1
    have hB3 : stB[3]? = _ := (hB1 3 (by omega)).trans w1
    have hB1 : stB[1]? = _ := (hB1 1 (by omega)).trans k1
    have hn3 : 3 ∉ f22 [.ptr 3 0 5] st2 := hB2 3 (by omega)
    have hn1 : 1 ∉ f22 [.ptr 3 0 5] st2 := hB2 1 (by omega)
    refine regX_h x8_22 c8_22 ?_
    simp -dsimp only [↓R0, RA, simprocAttr, RQ, ↓R5, R6, f8, f15, w1, ld24, hCall_d hd22, k1, hB3, hB1, wr]
    refine ⟨by simp [fpOk, fl_p, fs_p, fp22, f8, f15, hn3, hn1]; omega, ?_⟩
    have h1s : ∀ c : Blk, (stB.set 1 c)[1]? = some c := fun c => get_set_eq hB1
    simp -dsimp only [↓R0, RA, simprocAttr, f8, f15, h1s, ld24]
    refine ⟨_, do_fz (x := x1) hT.ok, t, x1, s1, rfl, ⟨.refl hT, w3.elim .inl (fun x => .inr (.inl x)), fun _ => rfl, fun x => absurd rfl x, fun _ _ _ x => absurd x hto, fun p e1 e2 _ g1 g2 => ?_, fun _ _ _ x => absurd x hrm, fun _ _ _ _ x => absurd x hcp⟩⟩
    obtain ⟨_, _, e⟩ := hnone p e1 e2
    subst e
    exact w7 p (by simp at hc hi; omega) (by rw [sortB_one]; rfl) g1 g2
end
section
variable {t : Tr} {cwd : Int} {nm : ByteArray} {l : List ByteArray} {d : D}
theorem knw_cases (nm : ByteArray) : knw nm = none ∨ nm = rmS ∨ nm = lsS ∨ (∃ o, knw nm = some (o, 1, -1)) ∨ ∃ o m, knw nm = some (o, 2, m) := by
  unfold knw
  by_cases h1 : nm = mkdirS
  · rw [if_pos h1]; exact .inr (.inr (.inr (.inl ⟨_, rfl⟩)))
  rw [if_neg h1]
  by_cases h2 : nm = rmS
  · exact .inr (.inl h2)
  rw [if_neg h2]
  by_cases h3 : nm = lnS
  · rw [if_pos h3]; exact .inr (.inr (.inr (.inr ⟨_, _, rfl⟩)))
  rw [if_neg h3]
  by_cases h4 : nm = lsS
  · exact .inr (.inr (.inl h4))
  rw [if_neg h4]
  by_cases h5 : nm = rmdirS ∨ nm = touchS
  · rw [if_pos h5]; exact .inr (.inr (.inr (.inl ⟨_, rfl⟩)))
  rw [if_neg h5]
  by_cases h6 : nm = mvS ∨ nm = cpS
  · rw [if_pos h6]; exact .inr (.inr (.inr (.inr ⟨_, _, rfl⟩)))
  rw [if_neg h6]
  exact .inl rfl
theorem s8 (hT : T t) (hd : Sl l.length (rowsS l) d) (hsz : (l.map ByteArray.size).sum ≤ 3000) (hln : l.length ≤ 20) : DoG t cwd nm l d := by
  by_cases h1 : nm = rmS
  · subst h1; exact d8_rm hT hd hsz (by omega)
  by_cases h2 : nm = lsS
  · subst h2; exact d8_ls hT hd hsz hln
  rcases knw_cases nm with h | h | h | ⟨o, h⟩ | ⟨o, m, h⟩
  · exact d8_no hT hd h
  · exact absurd h h1
  · exact absurd h h2
  · exact d8_one hT hd hsz (by omega) h h1 h2
  · exact d8_two hT hd hsz (by omega) h
end
end Go.Mm
end
section
namespace Go.Mm
open Go.Proofs
variable [Globs]
set_option maxRecDepth 8000
open Go.Proofs.Tryz renaming prog → TP
section
variable {t : Tr}
theorem KdOk.refs {d : D} (h : KdOk d) : refs d = [] := by
  rcases h with ⟨rfl, _⟩ | ⟨rfl, _⟩ | h
  · simp only [Mm.refs]
  · simp only [Mm.refs]
  · rw [h]; simp only [Mm.refs, rowsE_refs]
theorem s24 {x : Ino} (hk : KdOk x.kd) (hs : x.data.size ≤ 140737488355328) : ∃ b, Gives C TP 24 [.agg x.row] (.bool b) ∧ (b = true ↔ Alone x) := by
  have main : ∃ d, Gives C TP 24 [.agg x.row] d ∧ ∃ b, d = .bool b ∧ (b = true ↔ Alone x) := by
    refine frz_ex rfl rfl (by simp only [refsL, Mm.refs, Ino.row, hk.refs, List.append_nil]) (body_h b24 (by show 1 ≤ 91; decide) ?_)
    have fin : ∀ (st : Store) (b : Bool), (b = true ↔ Alone x) → ∃ d, fz st 8 (.bool b) = some d ∧ ∃ b, d = .bool b ∧ (b = true ↔ Alone x) := fun st b h => ⟨_, fz_0 (by simp only [Mm.refs]), b, rfl, h⟩
    have hln : ∀ st, lnV (some x.kd) st = some (.int .i64 x.kids.length, st) := fun st => Sl.lnV hk
    have hkn : ((x.kids.length : Int) = 0) ↔ x.kids = [] := by rw [← List.length_eq_zero_iff]; omega
    simp -dsimp only [↓R0, RA, simprocAttr, Ino.row]
    by_cases h0 : x.kind = 0
    · have key : ∀ b : Bool, (b = true ↔ (x.mode = 0 ∧ x.links = 0 ∧ x.data = emS ∧ (x.kids.length : Int) = 0 ∧ x.up = 0)) → (b = true ↔ Alone x) := by
        intro b hb
        rw [hb]
        refine ⟨fun h => ⟨fun _ => ⟨h.1, h.2.1, h.2.2.1, hkn.1 h.2.2.2.1, h.2.2.2.2⟩, fun e => absurd h0 e, fun e => ?_, fun e => ?_, fun _ => h.2.2.1, .inl h0⟩, fun h => ?_⟩
        · rw [h0] at e; cases e
        · rw [h0] at e; cases e
        · obtain ⟨q1, q2, q3, q4, q5⟩ := h.free h0
          exact ⟨q1, q2, q3, hkn.2 q4, q5⟩
      have hfal : ¬ (x.mode = 0 ∧ x.links = 0 ∧ x.data = emS ∧ (x.kids.length : Int) = 0 ∧ x.up = 0) → (false = true ↔ Alone x) := fun h => key _ (by simp only [Bool.false_eq_true, false_iff]; exact h)
      by_cases h1 : x.mode = 0
      rotate_left
      · simp -dsimp only [↓R0, RA, simprocAttr, h0, h1]
        exact fin _ _ (hfal (fun h => h1 h.1))
      by_cases h2 : x.links = 0
      rotate_left
      · simp -dsimp only [↓R0, RA, simprocAttr, h0, h1, h2]
        exact fin _ _ (hfal (fun h => h2 h.2.1))
      by_cases h3 : x.data = emS
      rotate_left
      · simp -dsimp only [↓R0, RA, simprocAttr, h0, h1, h2, decide_eq_false h3]
        exact fin _ _ (hfal (fun h => h3 h.2.2.1))
      by_cases h4 : (x.kids.length : Int) = 0
      rotate_left
      · simp -dsimp only [↓R0, RA, simprocAttr, h0, h1, h2, decide_eq_true h3, hln, decide_eq_false h4]
        exact fin _ _ (hfal (fun h => h4 h.2.2.2.1))
      simp -dsimp only [↓R0, RA, simprocAttr, h0, h1, h2, decide_eq_true h3, hln, decide_eq_true h4]
      exact fin _ _ (key _ (by simp [h1, h2, show x.data = emS from h3, h4]))
    by_cases h1 : 0 ≤ x.mode ∧ x.mode ≤ 7
    rotate_left
    · have hno : ¬ Alone x := fun h => h1 (h.mode h0)
      by_cases h2 : x.mode < 0
      · simp -dsimp only [↓R0, RA, simprocAttr, decide_eq_false h0, decide_eq_true h2]
        exact fin _ _ (by simp only [Bool.false_eq_true, false_iff]; exact hno)
      · have h3 : 7 < x.mode := by omega
        simp -dsimp only [↓R0, RA, simprocAttr, decide_eq_false h0, decide_eq_false h2, h3]
        exact fin _ _ (by simp only [Bool.false_eq_true, false_iff]; exact hno)
    have h2 : ¬ x.mode < 0 := by omega
    have h3 : ¬ 7 < x.mode := by omega
    simp -dsimp only [↓R0, RA, simprocAttr, decide_eq_false h0, h2, h3]
    by_cases g1 : x.kind = 1
    · have key : ∀ b : Bool, (b = true ↔ ((x.kids.length : Int) = 0 ∧ x.up = 0)) → (b = true ↔ Alone x) := by
        intro b hb
        rw [hb]
        refine ⟨fun h => ⟨fun e => absurd e h0, fun _ => h1, fun _ => ⟨hkn.1 h.1, h.2⟩, fun e => ?_, fun e => ?_, .inr (.inl g1)⟩, fun h => ⟨hkn.2 (h.file g1).1, (h.file g1).2⟩⟩
        · rw [g1] at e; cases e
        · rw [g1] at e; cases e
      by_cases h4 : (x.kids.length : Int) = 0
      rotate_left
      · simp -dsimp only [↓R0, RA, simprocAttr, decide_eq_true g1, hln, decide_eq_false h4]
        exact fin _ _ (key _ (by simp only [Bool.false_eq_true, false_iff]; exact fun h => h4 h.1))
      simp -dsimp only [↓R0, RA, simprocAttr, decide_eq_true g1, hln, decide_eq_true h4]
      exact fin _ _ (key _ (by simp [h4]))
    by_cases g3 : x.kind = 3
    · simp -dsimp only [↓R0, RA, simprocAttr, decide_eq_false g1, decide_eq_true g3]
      have key : ∀ b : Bool, (b = true ↔ (0 ∉ bl x.data ∧ (x.kids.length : Int) = 0 ∧ x.up = 0 ∧ x.data ≠ emS ∧ x.data.size ≤ 1024)) → (b = true ↔ Alone x) := by
        intro b hb
        rw [hb]
        refine ⟨fun h => ⟨fun e => absurd e h0, fun _ => h1, fun e => absurd e g1, fun _ => ⟨h.1, hkn.1 h.2.1, h.2.2.1, h.2.2.2.1, h.2.2.2.2⟩, fun e => ?_, .inr (.inr (.inr g3))⟩, fun h => ?_⟩
        · rw [g3] at e; cases e
        · obtain ⟨q1, q2, q3, q4, q5⟩ := h.link g3
          exact ⟨q1, hkn.2 q2, q3, q4, q5⟩
      refine hLoop_i (fun i : Nat => x.data.size - i) (fun i fr' st' => fr' 1 = .ptr 0 0 0 ∧ fr' 3 = .int .i64 i ∧ i ≤ x.data.size ∧ 0 ∉ (bl x.data).take i ∧ st' = [.cells 0 true 38 [.int .i64 x.kind, .int .i64 x.mode, .int .i64 x.links, .str x.data, x.kd, .int .i64 x.up]]) 0 ⟨rfl, rfl, Nat.zero_le _, by simp, rfl⟩ ?_
      rintro i fr st ⟨e1, e3, hi, hno, rfl⟩
      simp -dsimp only [↓R0, RA, simprocAttr, e1, e3]
      apply hIf_d <;> intro hc
      · have hil : i < x.data.size := by omega
        have hx0 : idxT (.str x.data) (.int .i64 i) = some (.int .u8 (atB x.data i).toNat) := by rw [ixT_of (by omega) (by omega), Int.toNat_natCast]
        simp -dsimp only [↓R0, RA, simprocAttr, hc, e1, e3, hx0]
        have hil' : i < (bl x.data).length := by rw [← sz]; exact hil
        have hat : atB x.data i = (bl x.data)[i] := by rw [atB_bl, List.getElem?_eq_getElem hil']; rfl
        apply hIf_d <;> intro hz
        · simp -dsimp only [↓R0, RA, simprocAttr, hz]
          refine fin _ _ (key _ ?_)
          simp only [Bool.false_eq_true, false_iff]
          intro h
          refine h.1 ?_
          have h9 : atB x.data i = 0 := by
            apply UInt8.toNat_inj.1
            have : (0 : UInt8).toNat = 0 := rfl
            omega
          rw [← h9, hat]
          exact List.getElem_mem hil'
        · have hwi : IntKind.i64.wrap ((i : Int) + 1) = ((i + 1 : Nat) : Int) := by rw [w64] <;> omega
          simp -dsimp only [↓R0, RA, simprocAttr, hz, e3, hwi]
          refine ⟨i + 1, by omega, (by first | trivial | (simp -dsimp only [R1, simprocAttr, e1]; done) | rfl), (by first | trivial | (simp -dsimp only [R1, simprocAttr]; done) | rfl), by omega, ?_, by first | trivial | rfl⟩
          rw [List.take_add_one, List.getElem?_eq_getElem hil']
          simp only [Option.toList_some, List.mem_append, List.mem_singleton, not_or]
          refine ⟨hno, fun e => hz ?_⟩
          rw [hat, ← e]; rfl
      · have hz : 0 ∉ bl x.data := by
          rw [List.take_of_length_le (by rw [← sz]; omega)] at hno; exact hno
        by_cases h4 : (x.kids.length : Int) = 0
        rotate_left
        · simp -dsimp only [↓R0, RA, simprocAttr, hc, e1, hln, decide_eq_false h4]
          exact fin _ _ (key _ (by simp only [Bool.false_eq_true, false_iff]; exact fun h => h4 h.2.1))
        by_cases h5 : x.up = 0
        rotate_left
        · simp -dsimp only [↓R0, RA, simprocAttr, hc, e1, hln, decide_eq_true h4, h5]
          exact fin _ _ (key _ (by simp only [Bool.false_eq_true, false_iff]; exact fun h => h5 h.2.2.1))
        by_cases h6 : x.data = emS
        · simp -dsimp only [↓R0, RA, simprocAttr, hc, e1, hln, decide_eq_true h4, h5, decide_eq_true h6]
          exact fin _ _ (key _ (by simp only [Bool.false_eq_true, false_iff]; exact fun h => h.2.2.2.1 h6))
        simp -dsimp only [↓R0, RA, simprocAttr, hc, e1, hln, decide_eq_true h4, h5, decide_eq_false h6]
        refine fin _ _ (key _ ?_)
        rw [decide_eq_true_iff]
        exact ⟨fun h => ⟨hz, h4, h5, h6, by omega⟩, fun h => by have := h.2.2.2.2; omega⟩
    by_cases g2 : x.kind = 2
    · have h6 : ∀ b : Bool, (b = true ↔ x.data = emS) → (b = true ↔ Alone x) := by
        intro b hb
        rw [hb]
        exact ⟨fun h => ⟨fun e => absurd e h0, fun _ => h1, fun e => absurd e g1, fun e => absurd e g3, fun _ => h, .inr (.inr (.inl g2))⟩, fun h => h.dir g2⟩
      simp -dsimp only [↓R0, RA, simprocAttr, decide_eq_false g1, decide_eq_false g3, decide_eq_true g2]
      exact fin _ _ (h6 _ (by rw [decide_eq_true_iff]))
    simp -dsimp only [↓R0, RA, simprocAttr, decide_eq_false g1, decide_eq_false g3, decide_eq_false g2]
    refine fin _ _ ?_
    simp only [Bool.false_eq_true, false_iff]
    intro h
    rcases h.kind with h | h | h | h
    · exact h0 h
    · exact g1 h
    · exact g2 h
    · exact g3 h
  obtain ⟨_, h1, b, rfl, h2⟩ := main
  exact ⟨b, h1, h2⟩
theorem s27 {k : Int} (ok : t.Ok) (hn : t.nodes.length ≤ 300) (hk : t.has k) : Gives C TP 27 [t.d, .int .i64 k] (.bool (rootN t (t.nodes.length + 1) k)) := by
  refine gives_frz rfl rfl (ref1 ok) (body_h b27 (by show 2 ≤ 34; decide) ?_)
  have hlen := ok.len
  simp -dsimp only [↓R0, RA, simprocAttr]
  refine hLoop_i (fun a : Nat × Int => t.nodes.length + 1 - a.1) (fun a fr' st' => fr' 1 = .int .i64 a.2 ∧ fr' 2 = .ptr 0 0 0 ∧ fr' 5 = .int .i64 a.1 ∧ a.1 ≤ t.nodes.length + 1 ∧ t.has a.2 ∧ rootN t (t.nodes.length + 1) k = rootN t (t.nodes.length + 1 - a.1) a.2 ∧ st' = [.cells 0 true 24 t.c]) (0, k) ⟨rfl, rfl, rfl, Nat.zero_le _, hk, rfl, rfl⟩ ?_
  rintro ⟨i, k1⟩ fr st ⟨e1, e2, e5, hi, hk1, hr, rfl⟩
  simp only [] at e1 e5 hi hk1 hr
  simp -dsimp only [↓R0, RA, simprocAttr, e1, e2, e5, ok.nd.lnV]
  apply hIf_d <;> intro hc
  · have hil : i ≤ t.nodes.length := by omega
    have hsub : t.nodes.length + 1 - i = (t.nodes.length - i) + 1 := by omega
    simp -dsimp only [↓R0, RA, simprocAttr, hc, e1]
    apply hIf_d <;> intro h0
    · simp -dsimp only [↓R0, RA, simprocAttr, decide_eq_true h0]
      rw [hr, hsub, rootN, if_pos h0, fz_b]
    · simp -dsimp only [↓R0, RA, simprocAttr, decide_eq_false h0, e1, e2, Tr.ixh ok hk1, Tr.c5 hk1, hCall_g (s25 ok), un]
      have hr' : rootN t (t.nodes.length + 1) k = if t.dir (t.at k1).up then rootN t (t.nodes.length - i) (t.at k1).up else false := by
        rw [hr, hsub]
        conv => lhs; unfold rootN
        rw [if_neg h0]
      apply hIf_d <;> intro h1
      · simp -dsimp only [↓R0, RA, simprocAttr, decide_eq_true h1, e2, Tr.ixh ok h1, Tr.c0 h1]
        apply hIf_d <;> intro h2
        · have hwi : IntKind.i64.wrap ((i : Int) + 1) = ((i + 1 : Nat) : Int) := by rw [w64] <;> omega
          simp -dsimp only [↓R0, RA, simprocAttr, decide_eq_true h2, e5, hwi]
          refine ⟨(i + 1, (t.at k1).up), by simp only []; omega, (by first | trivial | (simp -dsimp only [R1, simprocAttr]; done) | rfl), (by first | trivial | (simp -dsimp only [R1, simprocAttr, e2]; done) | rfl), (by first | trivial | (simp -dsimp only [R1, simprocAttr]; done) | rfl), by simp only []; omega, h1, ?_, by first | trivial | rfl⟩
          rw [hr', if_pos ⟨h1, h2⟩]
          congr 1
          simp only []; omega
        · simp -dsimp only [↓R0, RA, simprocAttr, decide_eq_false h2]
          rw [hr', if_neg (fun h => h2 h.2), fz_b]
      · simp -dsimp only [↓R0, RA, simprocAttr, decide_eq_false h1]
        rw [hr', if_neg (fun h => h1 h.1), fz_b]
  · have hi' : i = t.nodes.length + 1 := by omega
    simp -dsimp only [↓R0, RA, simprocAttr, hc]
    rw [hr, hi', Nat.sub_self, rootN, fz_b]
end
end Go.Mm
end
section
namespace Go.Mm
open Go.Proofs
variable [Globs] [GOk]
set_option maxRecDepth 8000
open Go.Proofs.Tryz renaming prog → TP
section
variable {t : Tr} {st : Store}
def rowsN (c : List Int) : List D := c.map (.int .i64)
theorem rowsN_len {c : List Int} : (rowsN c).length = c.length := by simp [rowsN]
theorem rowsN_get {c : List Int} {i : Nat} (h : i < c.length) : (rowsN c)[i]? = some (.int .i64 c[i]) := by
  unfold rowsN
  rw [List.getElem?_map, List.getElem?_eq_getElem h]; rfl
theorem rowsN_set {c : List Int} {i : Nat} {x : Int} : (rowsN c).set i (.int .i64 x) = rowsN (c.set i x) := by
  unfold rowsN
  rw [List.map_set]
theorem sorted_take {l : List Ent} {i : Nat} (hi : i < l.length) (h : Sorted (l.take i)) (hp : ∀ h0 : 0 < i, sLt (l[i - 1]'(by omega)).name l[i].name = true) : Sorted (l.take (i + 1)) := by
  rw [List.take_add_one, List.getElem?_eq_getElem hi]
  unfold Sorted at h ⊢
  simp only [Option.toList_some]
  rw [List.pairwise_append]
  refine ⟨h, by simp, ?_⟩
  intro a ha b hb
  rw [List.mem_singleton.1 hb]
  obtain ⟨j, hj, rfl⟩ := List.getElem_of_mem ha
  rw [List.length_take] at hj
  rw [List.getElem_take]
  have hp' := hp (by omega)
  by_cases e : j = i - 1
  · subst e; exact hp'
  · have h2 := List.pairwise_iff_getElem.1 h j (i - 1) (by rw [List.length_take]; omega) (by rw [List.length_take]; omega) (by omega)
    rw [List.getElem_take, List.getElem_take] at h2
    exact sLt_tr h2 hp'
theorem cntE_take {l : List Ent} {i j : Nat} (hi : i < l.length) : (cntE (l.take (i + 1)) j : Int) = cntE (l.take i) j + (if l[i].ino = (j : Int) then 1 else 0) := by
  unfold cntE
  rw [List.take_add_one, List.getElem?_eq_getElem hi, List.countP_append]
  simp only [Option.toList_some, List.countP_cons, List.countP_nil, Nat.zero_add]
  by_cases h : l[i].ino = (j : Int)
  · simp [h]
  · simp [h]
theorem cntE_le {l : List Ent} {j : Nat} : cntE l j ≤ l.length := List.countP_le_length
theorem d26 {k cid : Nat} {c : List Int} (ok : t.Ok) (hn : t.nodes.length ≤ 300) (hk : t.has (k : Int)) (hkl : (t.at (k : Int)).kids.length ≤ 1024) (hnm : ∀ e ∈ (t.at (k : Int)).kids, e.name.size ≤ 140737488355328)
    (hc : st[cid]? = some (.cells 0 true 3 (rowsN c))) (hcl : c.length = t.nodes.length) (hcb : ∀ x ∈ c, 0 ≤ x ∧ x ≤ 400000) :
    CallW C TP 26 [t.d, .int .i64 k, .osl cid 0 1 0 t.nodes.length] st fun r st' => Lft cid st st' ∧ ∃ b, r = .bool b ∧ (b = true ↔ KidsOk t k (t.at (k : Int)).kids) ∧
      (b = true → ∃ c', c'.length = c.length ∧ (∀ j (h : j < c.length) (h' : j < c'.length), c'[j] = c[j] + cntE (t.at (k : Int)).kids j) ∧ st'[cid]? = some (.cells 0 true 3 (rowsN c'))) := by
  refine call_th rfl rfl (body_h b26 (by show 3 ≤ 98; decide) ?_)
  have hkd := ok.kdk hk
  have hcid := get_lt hc
  simp -dsimp only [↓R0, RA, simprocAttr, RQ, app_get0, Tr.ixh ok hk, Tr.c4 hk]
  generalize hL : (t.at (k : Int)).kids = l at *
  have hkd : Sl l.length (rowsE l) (t.at (k : Int)).kd := by rw [← hL]; exact ok.kdk hk
  generalize (t.at (k : Int)).kd = kd at *
  refine hLoop_i (fun i : Nat => l.length - i) (fun i fr' st' => fr' 1 = .int .i64 k ∧ fr' 2 = .osl cid 0 1 0 t.nodes.length ∧ fr' 3 = .ptr st.length 0 0 ∧ fr' 7 = kd ∧ fr' 8 = .int .i64 i ∧ i ≤ l.length ∧ KidsOk t k (l.take i) ∧ Lft cid (st ++ [.cells 0 true 24 t.c]) st' ∧
    ∃ ci, ci.length = c.length ∧ (∀ j (h : j < c.length) (h' : j < ci.length), ci[j] = c[j] + cntE (l.take i) j) ∧ st'[cid]? = some (.cells 0 true 3 (rowsN ci))) 0 ⟨rfl, rfl, rfl, rfl, rfl, Nat.zero_le _, ⟨List.Pairwise.nil, by simp, by simp, by simp⟩, .refl, c, rfl, fun j h h' => by simp [cntE], get_app hc⟩ ?_
  rintro i fr st1 ⟨e1, e2, e3, e7, e8, hi, hK, hf, ci, hci1, hci2, hci3⟩
  have hbx : st1[st.length]? = some (.cells 0 true 24 t.c) := hf.get (by rw [app_get0]; rfl) (by omega)
  have hll : Lft cid st st1 := Lft.app.trans hf
  have fin : ∀ st2, Lft cid st st2 → ¬ KidsOk t k l → Lft cid st st2 ∧ ∃ b, D.bool false = .bool b ∧ (b = true ↔ KidsOk t k l) ∧
      (b = true → ∃ c', c'.length = c.length ∧ (∀ j (h : j < c.length) (h' : j < c'.length), c'[j] = c[j] + cntE l j) ∧ st2[cid]? = some (.cells 0 true 3 (rowsN c'))) := fun st2 h1 h2 => ⟨h1, false, rfl, by simpa using h2, fun h => by cases h⟩
  simp -dsimp only [↓R0, RA, simprocAttr, e7, e8, hkd.lnV]
  apply hIf_d <;> intro hc
  rotate_left
  · simp -dsimp only [↓R0, RA, simprocAttr, hc]
    have : l.take i = l := List.take_of_length_le (by omega)
    rw [this] at hK hci2
    exact ⟨hll, true, rfl, by simpa using hK, fun _ => ⟨ci, hci1, hci2, hci3⟩⟩
  have hil : i < l.length := by omega
  have hmem := List.getElem_mem hil
  have c1 : (0 : Int) ≤ i := by omega
  have c2 : (i : Int) < (l.length : Nat) := by omega
  have hrow := rowsE_take (l := l) (j := i) (List.getElem?_eq_getElem hil)
  have hix : idxS 2 kd (.int .i64 i) = some (.fptr (rowsE l) (i * 2)) := hkd.ix c1 c2
  have r0 : (rowsE l)[i * 2]? = some (.str l[i].name) := rowsE_get (List.getElem?_eq_getElem hil) 0 (by omega)
  have r1 : (rowsE l)[i * 2 + 1]? = some (.int .i64 l[i].ino) := rowsE_get (List.getElem?_eq_getElem hil) 1 (by omega)
  have hns := hnm _ hmem
  simp -dsimp only [↓R0, RA, simprocAttr, hc, e7, e8, hix, r0, hCall_g (s50 (show l[i].name.size ≤ 9223372036854775807 by omega)), un]
  by_cases h1 : NameOk l[i].name
  rotate_left
  · simp -dsimp only [↓R0, RA, simprocAttr, decide_eq_false h1, un]
    exact fin _ hll (fun h => h1 (h.name _ hmem))
  have e3' : fpL (some (fr 3)) = .read (some st.length) := by rw [e3]; rfl
  by_cases h2 : (0 : Int) < i
  · have hwm : IntKind.i64.wrap ((i : Int) - 1) = ((i - 1 : Nat) : Int) := by rw [w64] <;> omega
    have him : i - 1 < l.length := by omega
    have hixm : idxS 2 kd (.int .i64 ((i - 1 : Nat) : Int)) = some (.fptr (rowsE l) ((i - 1) * 2)) := by
      have := hkd.ix (sz := 2) (k := .i64) (i := ((i - 1 : Nat) : Int)) (by omega) (by omega)
      rw [Int.toNat_natCast] at this; exact this
    have r0m : (rowsE l)[(i - 1) * 2]? = some (.str l[i - 1].name) := rowsE_get (List.getElem?_eq_getElem him) 0 (by omega)
    by_cases h3 : sLt l[i - 1].name l[i].name = true
    rotate_left
    · have h3' : sLt l[i - 1].name l[i].name = false := by simpa using h3
      simp -dsimp only [↓R0, RA, simprocAttr, decide_eq_true h1, un, e7, e8, h2, hwm, hixm, r0m, hix, r0, h3']
      refine fin _ hll (fun h => h3 ?_)
      exact h.sorted.lt (i := i - 1) (j := i) (by omega) hil
    simp -dsimp only [↓R0, RA, simprocAttr, decide_eq_true h1, un, e7, e8, h2, hwm, hixm, r0m, hix, r0, h3, e3, hbx, r1, hCall_g (s25 ok)]
    by_cases h4 : t.has l[i].ino
    rotate_left
    · simp -dsimp only [↓R0, RA, simprocAttr, decide_eq_false h4, h2, hwm, hixm, r0m, h3]
      exact fin _ hll (fun h => h4 (h.live _ hmem).1)
    simp -dsimp only [↓R0, RA, simprocAttr, decide_eq_true h4, h2, hwm, hixm, r0m, h3]
    obtain ⟨m, hm, hml⟩ := has_ex h4
    rw [hm] at h4 r1
    refine regX_h x26_7 c26_7 ?_
    simp -dsimp only [↓R0, RA, simprocAttr, RQ, ↓R5, R6, e3, hbx, e7, e8, hix, r1, Tr.ixh ok h4, Tr.crow h4, Tr.cle h4, Ino.row, app_get0]
    have hst2 : Lft cid st (st1 ++ [Blk.cells 0 true 38 [.int .i64 (t.at (m : Int)).kind, .int .i64 (t.at (m : Int)).mode, .int .i64 (t.at (m : Int)).links, .str (t.at (m : Int)).data, (t.at (m : Int)).kd, .int .i64 (t.at (m : Int)).up]]) := hll.trans Lft.app
    refine ⟨by simp [fpOk, fl_p, fl_f, e3]; have := get_lt hbx; omega, ?_⟩
    by_cases h5 : (t.at (m : Int)).kind = 0
    · simp -dsimp only [↓R0, RA, simprocAttr, RQ, decide_eq_true h5, app_get0]
      exact fin _ hst2 (fun h => by have := (h.live _ hmem).2; rw [hm] at this; exact this h5)
    have hlive : t.live l[i].ino := by rw [hm]; exact ⟨h4, h5⟩
    have hmc : m < ci.length := by omega
    have hci4 : (st1 ++ [Blk.cells 0 true 38 [.int .i64 (t.at (m : Int)).kind, .int .i64 (t.at (m : Int)).mode, .int .i64 (t.at (m : Int)).links, .str (t.at (m : Int)).data, (t.at (m : Int)).kd, .int .i64 (t.at (m : Int)).up]])[cid]? = some (.cells 0 true 3 (rowsN ci)) := get_app hci3
    have hcb1 : 0 ≤ ci[m] ∧ ci[m] ≤ 500000 := by
      have q1 := hci2 m (by omega) hmc
      have q2 := hcb (c[m]'(by omega)) (List.getElem_mem _)
      have q3 := cntE_le (l := l.take i) (j := m)
      have q4 : (l.take i).length ≤ 1024 := by rw [List.length_take]; omega
      omega
    have hixc : idxS 1 (.osl cid 0 1 0 t.nodes.length) (.int .i64 (m : Int)) = some (.ptr cid 0 m) := by
      simp only [idxS, idx]
      rw [if_pos (by omega)]
      simp
    have hwc : IntKind.i64.wrap (ci[m] + 1) = ci[m] + 1 := by rw [w64] <;> omega
    have hwi : IntKind.i64.wrap ((i : Int) + 1) = ((i + 1 : Nat) : Int) := by rw [w64] <;> omega
    have hgm := rowsN_get hmc
    have hle1 : (m + 1 ≤ (rowsN ci).length) = True := by rw [rowsN_len]; simp; omega
    have hset : (rowsN ci).set m (.int .i64 (ci[m] + 1)) = rowsN (ci.set m (ci[m] + 1)) := rowsN_set
    have hKn : ((t.at (m : Int)).kind = 2 → m ≠ 0 ∧ (t.at (m : Int)).up = k) → KidsOk t k (l.take (i + 1)) := by
      intro hd
      have hsplit : ∀ e, e ∈ l.take (i + 1) → e ∈ l.take i ∨ e = l[i] := by
        intro e he
        rw [List.take_add_one, List.getElem?_eq_getElem hil] at he
        rcases List.mem_append.1 he with h | h
        · exact .inl h
        · exact .inr (by simpa using h)
      refine ⟨sorted_take hil hK.sorted (fun _ => h3), ?_, ?_, ?_⟩
      · intro e he
        rcases hsplit e he with h | rfl
        · exact hK.name e h
        · exact h1
      · intro e he
        rcases hsplit e he with h | rfl
        · exact hK.live e h
        · exact hlive
      · intro e he h2'
        rcases hsplit e he with h | rfl
        · exact hK.dir e h h2'
        · rw [hm] at h2' ⊢
          obtain ⟨q1, q2⟩ := hd h2'
          exact ⟨by omega, q2⟩
    have hcn : ∀ j (h : j < c.length) (h' : j < (ci.set m (ci[m] + 1)).length), (ci.set m (ci[m] + 1))[j] = c[j] + cntE (l.take (i + 1)) j := by
      intro j h h'
      rw [List.getElem_set, cntE_take hil, hm]
      have q := hci2 j h (by omega)
      by_cases e : m = j
      · subst e
        rw [if_pos rfl, if_pos rfl]; omega
      · rw [if_neg e, if_neg (by omega)]; omega
    have hx26 : ∀ b : Blk, Lft cid (st ++ [.cells 0 true 24 t.c]) ((st1 ++ [Blk.cells 0 true 38 [.int .i64 (t.at (m : Int)).kind, .int .i64 (t.at (m : Int)).mode, .int .i64 (t.at (m : Int)).links, .str (t.at (m : Int)).data, (t.at (m : Int)).kd, .int .i64 (t.at (m : Int)).up]]).set cid b) := fun b => (hf.trans Lft.app).trans Lft.set
    by_cases h6 : (t.at (m : Int)).kind = 2
    · by_cases h7 : (m : Int) = 0
      · simp -dsimp only [↓R0, RA, simprocAttr, RQ, decide_eq_false h5, app_get0, decide_eq_true h6, decide_eq_true h7, e7, e8, hix, r1]
        refine fin _ hst2 (fun h => ?_)
        have := (h.dir _ hmem (by rw [hm]; exact h6)).1
        rw [hm] at this; exact this h7
      by_cases h8 : (t.at (m : Int)).up = k
      rotate_left
      · simp -dsimp only [↓R0, RA, simprocAttr, RQ, decide_eq_false h5, app_get0, decide_eq_true h6, decide_eq_false h7, decide_eq_false h8, e1, e7, e8, hix, r1]
        refine fin _ hst2 (fun h => ?_)
        have := (h.dir _ hmem (by rw [hm]; exact h6)).2
        rw [hm] at this; exact h8 this
      simp -dsimp only [↓R0, RA, simprocAttr, RQ, decide_eq_false h5, app_get0, decide_eq_true h6, decide_eq_false h7, decide_eq_true h8, e1, e2, e7, e8, hix, r1, hixc, hci4, hgm, hwc, hwi, hle1, hset]
      exact ⟨i + 1, by omega, (by first | trivial | (simp -dsimp only [R1, simprocAttr, e1]; done) | rfl), (by first | trivial | (simp -dsimp only [R1, simprocAttr, e2]; done) | rfl), (by first | trivial | (simp -dsimp only [R1, simprocAttr, e3]; done) | rfl), (by first | trivial | (simp -dsimp only [R1, simprocAttr, e7]; done) | rfl), (by first | trivial | (simp -dsimp only [R1, simprocAttr]; done) | rfl), by omega, hKn (fun _ => ⟨by omega, h8⟩), hx26 _, _, by simp [hci1], hcn, get_set_eq hci4⟩
    · simp -dsimp only [↓R0, RA, simprocAttr, RQ, decide_eq_false h5, app_get0, decide_eq_false h6, e1, e2, e7, e8, hix, r1, hixc, hci4, hgm, hwc, hwi, hle1, hset]
      exact ⟨i + 1, by omega, (by first | trivial | (simp -dsimp only [R1, simprocAttr, e1]; done) | rfl), (by first | trivial | (simp -dsimp only [R1, simprocAttr, e2]; done) | rfl), (by first | trivial | (simp -dsimp only [R1, simprocAttr, e3]; done) | rfl), (by first | trivial | (simp -dsimp only [R1, simprocAttr, e7]; done) | rfl), (by first | trivial | (simp -dsimp only [R1, simprocAttr]; done) | rfl), by omega, hKn (fun h => absurd h h6), hx26 _, _, by simp [hci1], hcn, get_set_eq hci4⟩
  · simp -dsimp only [↓R0, RA, simprocAttr, decide_eq_true h1, un, e7, e8, h2, hix, e3, hbx, r1, hCall_g (s25 ok)]
    by_cases h4 : t.has l[i].ino
    rotate_left
    · simp -dsimp only [↓R0, RA, simprocAttr, decide_eq_false h4, h2]
      exact fin _ hll (fun h => h4 (h.live _ hmem).1)
    simp -dsimp only [↓R0, RA, simprocAttr, decide_eq_true h4, h2]
    obtain ⟨m, hm, hml⟩ := has_ex h4
    rw [hm] at h4 r1
    refine regX_h x26_7 c26_7 ?_
    simp -dsimp only [↓R0, RA, simprocAttr, RQ, ↓R5, R6, e3, hbx, e7, e8, hix, r1, Tr.ixh ok h4, Tr.crow h4, Tr.cle h4, Ino.row, app_get0]
    have hst2 : Lft cid st (st1 ++ [Blk.cells 0 true 38 [.int .i64 (t.at (m : Int)).kind, .int .i64 (t.at (m : Int)).mode, .int .i64 (t.at (m : Int)).links, .str (t.at (m : Int)).data, (t.at (m : Int)).kd, .int .i64 (t.at (m : Int)).up]]) := hll.trans Lft.app
    refine ⟨by simp [fpOk, fl_p, fl_f, e3]; have := get_lt hbx; omega, ?_⟩
    by_cases h5 : (t.at (m : Int)).kind = 0
    · simp -dsimp only [↓R0, RA, simprocAttr, RQ, decide_eq_true h5, app_get0]
      exact fin _ hst2 (fun h => by have := (h.live _ hmem).2; rw [hm] at this; exact this h5)
    have hlive : t.live l[i].ino := by rw [hm]; exact ⟨h4, h5⟩
    have hmc : m < ci.length := by omega
    have hci4 : (st1 ++ [Blk.cells 0 true 38 [.int .i64 (t.at (m : Int)).kind, .int .i64 (t.at (m : Int)).mode, .int .i64 (t.at (m : Int)).links, .str (t.at (m : Int)).data, (t.at (m : Int)).kd, .int .i64 (t.at (m : Int)).up]])[cid]? = some (.cells 0 true 3 (rowsN ci)) := get_app hci3
    have hcb1 : 0 ≤ ci[m] ∧ ci[m] ≤ 500000 := by
      have q1 := hci2 m (by omega) hmc
      have q2 := hcb (c[m]'(by omega)) (List.getElem_mem _)
      have q3 := cntE_le (l := l.take i) (j := m)
      have q4 : (l.take i).length ≤ 1024 := by rw [List.length_take]; omega
      omega
    have hixc : idxS 1 (.osl cid 0 1 0 t.nodes.length) (.int .i64 (m : Int)) = some (.ptr cid 0 m) := by
      simp only [idxS, idx]
      rw [if_pos (by omega)]
      simp
    have hwc : IntKind.i64.wrap (ci[m] + 1) = ci[m] + 1 := by rw [w64] <;> omega
    have hwi : IntKind.i64.wrap ((i : Int) + 1) = ((i + 1 : Nat) : Int) := by rw [w64] <;> omega
    have hgm := rowsN_get hmc
    have hle1 : (m + 1 ≤ (rowsN ci).length) = True := by rw [rowsN_len]; simp; omega
    have hset : (rowsN ci).set m (.int .i64 (ci[m] + 1)) = rowsN (ci.set m (ci[m] + 1)) := rowsN_set
    have hKn : ((t.at (m : Int)).kind = 2 → m ≠ 0 ∧ (t.at (m : Int)).up = k) → KidsOk t k (l.take (i + 1)) := by
      intro hd
      have hsplit : ∀ e, e ∈ l.take (i + 1) → e ∈ l.take i ∨ e = l[i] := by
        intro e he
        rw [List.take_add_one, List.getElem?_eq_getElem hil] at he
        rcases List.mem_append.1 he with h | h
        · exact .inl h
        · exact .inr (by simpa using h)
      refine ⟨sorted_take hil hK.sorted (fun h0 => absurd h0 (by omega)), ?_, ?_, ?_⟩
      · intro e he
        rcases hsplit e he with h | rfl
        · exact hK.name e h
        · exact h1
      · intro e he
        rcases hsplit e he with h | rfl
        · exact hK.live e h
        · exact hlive
      · intro e he h2'
        rcases hsplit e he with h | rfl
        · exact hK.dir e h h2'
        · rw [hm] at h2' ⊢
          obtain ⟨q1, q2⟩ := hd h2'
          exact ⟨by omega, q2⟩
    have hcn : ∀ j (h : j < c.length) (h' : j < (ci.set m (ci[m] + 1)).length), (ci.set m (ci[m] + 1))[j] = c[j] + cntE (l.take (i + 1)) j := by
      intro j h h'
      rw [List.getElem_set, cntE_take hil, hm]
      have q := hci2 j h (by omega)
      by_cases e : m = j
      · subst e
        rw [if_pos rfl, if_pos rfl]; omega
      · rw [if_neg e, if_neg (by omega)]; omega
    have hx26 : ∀ b : Blk, Lft cid (st ++ [.cells 0 true 24 t.c]) ((st1 ++ [Blk.cells 0 true 38 [.int .i64 (t.at (m : Int)).kind, .int .i64 (t.at (m : Int)).mode, .int .i64 (t.at (m : Int)).links, .str (t.at (m : Int)).data, (t.at (m : Int)).kd, .int .i64 (t.at (m : Int)).up]]).set cid b) := fun b => (hf.trans Lft.app).trans Lft.set
    by_cases h6 : (t.at (m : Int)).kind = 2
    · by_cases h7 : (m : Int) = 0
      · simp -dsimp only [↓R0, RA, simprocAttr, RQ, decide_eq_false h5, app_get0, decide_eq_true h6, decide_eq_true h7, e7, e8, hix, r1]
        refine fin _ hst2 (fun h => ?_)
        have := (h.dir _ hmem (by rw [hm]; exact h6)).1
        rw [hm] at this; exact this h7
      by_cases h8 : (t.at (m : Int)).up = k
      rotate_left
      · simp -dsimp only [↓R0, RA, simprocAttr, RQ, decide_eq_false h5, app_get0, decide_eq_true h6, decide_eq_false h7, decide_eq_false h8, e1, e7, e8, hix, r1]
        refine fin _ hst2 (fun h => ?_)
        have := (h.dir _ hmem (by rw [hm]; exact h6)).2
        rw [hm] at this; exact h8 this
      simp -dsimp only [↓R0, RA, simprocAttr, RQ, decide_eq_false h5, app_get0, decide_eq_true h6, decide_eq_false h7, decide_eq_true h8, e1, e2, e7, e8, hix, r1, hixc, hci4, hgm, hwc, hwi, hle1, hset]
      exact ⟨i + 1, by omega, (by first | trivial | (simp -dsimp only [R1, simprocAttr, e1]; done) | rfl), (by first | trivial | (simp -dsimp only [R1, simprocAttr, e2]; done) | rfl), (by first | trivial | (simp -dsimp only [R1, simprocAttr, e3]; done) | rfl), (by first | trivial | (simp -dsimp only [R1, simprocAttr, e7]; done) | rfl), (by first | trivial | (simp -dsimp only [R1, simprocAttr]; done) | rfl), by omega, hKn (fun _ => ⟨by omega, h8⟩), hx26 _, _, by simp [hci1], hcn, get_set_eq hci4⟩
    · simp -dsimp only [↓R0, RA, simprocAttr, RQ, decide_eq_false h5, app_get0, decide_eq_false h6, e1, e2, e7, e8, hix, r1, hixc, hci4, hgm, hwc, hwi, hle1, hset]
      exact ⟨i + 1, by omega, (by first | trivial | (simp -dsimp only [R1, simprocAttr, e1]; done) | rfl), (by first | trivial | (simp -dsimp only [R1, simprocAttr, e2]; done) | rfl), (by first | trivial | (simp -dsimp only [R1, simprocAttr, e3]; done) | rfl), (by first | trivial | (simp -dsimp only [R1, simprocAttr, e7]; done) | rfl), (by first | trivial | (simp -dsimp only [R1, simprocAttr]; done) | rfl), by omega, hKn (fun h => absurd h h6), hx26 _, _, by simp [hci1], hcn, get_set_eq hci4⟩
end
section
variable {t : Tr} {st : Store}
structure Tr.Sz (t : Tr) : Prop where
  data : ∀ x ∈ t.nodes, x.data.size ≤ 140737488355328
  name : ∀ x ∈ t.nodes, ∀ e ∈ x.kids, e.name.size ≤ 140737488355328
  kids : ∀ x ∈ t.nodes, x.kids.length ≤ 140737488355328
theorem sumN_bd {n B : Nat} {f : Nat → Nat} (h : ∀ i, i < n → f i ≤ B) : sumN n f ≤ n * B := by
  induction n with
  | zero => rw [sumN_0]; omega
  | succ n ih =>
    rw [sumN_s]
    have := ih (fun i hi => h i (by omega))
    have := h n (by omega)
    rw [Nat.succ_mul]; omega
theorem rep_zero : ∀ n, rep [D.int .i64 0] n = rowsN (List.replicate n 0)
  | 0 => rfl
  | n + 1 => by rw [rep, rep_zero n]; rfl
def OneOk (t : Tr) (q : Nat) : Prop := (Alone (t.at (q : Int)) ∧ (t.at (q : Int)).data.size ≤ 65536) ∧ ((t.at (q : Int)).kind = 2 → t.has (t.at (q : Int)).up ∧ (t.at (q : Int)).kids.length ≤ 1024 ∧ KidsOk t q (t.at (q : Int)).kids)
theorem OneOk.kids_le {q : Nat} (h : OneOk t q) : (t.at (q : Int)).kids.length ≤ 1024 := by
  obtain ⟨⟨h1, _⟩, h2⟩ := h
  rcases h1.kind with h | h | h | h
  · rw [(h1.free h).2.2.2.1]; simp
  · rw [(h1.file h).1]; simp
  · exact (h2 h).2.1
  · rw [(h1.link h).2.1]; simp
theorem OneOk.nodir {q : Nat} (h : OneOk t q) (hk : (t.at (q : Int)).kind ≠ 2) : (t.at (q : Int)).kids = [] := by
  obtain ⟨⟨h1, _⟩, h2⟩ := h
  rcases h1.kind with h | h | h | h
  · exact (h1.free h).2.2.2.1
  · exact (h1.file h).1
  · exact absurd h hk
  · exact (h1.link h).2.1
def LinkOk (t : Tr) (q : Nat) : Prop := (t.at (q : Int)).links = t.cnt (q : Int) ∧ ((t.at (q : Int)).kind ≠ 0 → 0 < q → 0 < t.cnt (q : Int)) ∧ ((t.at (q : Int)).kind = 2 → rootN t (t.nodes.length + 1) q = true ∧ (0 < q → t.cnt (q : Int) = 1))
theorem fit_of (h1 : 1 ≤ t.nodes.length) (h2 : (t.nodes.length : Int) ≤ t.mx) (h3 : t.mx ≤ 256) (h4 : 0 ≤ t.mb) (h5 : t.mb ≤ 65536) (h6 : (t.at 0).kind = 2) (h7 : (t.at 0).up = 0) (h8 : ∀ q, q < t.nodes.length → OneOk t q) (h9 : ∀ q, q < t.nodes.length → LinkOk t q) (h10 : (sumN t.nodes.length (fun q => (t.V q).data.size) : Int) ≤ t.mb) : Fit t := by
  refine ⟨h1, h2, h3, h4, h5, ⟨h6, h7⟩, ?_, ?_, ?_, ?_, ?_, ?_, by rw [sum_V]; exact h10⟩
  · intro k hk
    obtain ⟨j, rfl, hj⟩ := has_ex hk
    exact (h8 j hj).1
  · intro k hk
    obtain ⟨j, rfl, hj⟩ := has_ex hk.1
    exact (h8 j hj).2 hk.2
  · intro k hk
    obtain ⟨j, rfl, hj⟩ := has_ex hk
    exact (h9 j hj).1
  · intro k hk h0
    obtain ⟨j, rfl, hj⟩ := has_ex hk.1
    exact (h9 j hj).2.1 hk.2 (by omega)
  · intro k hk h0
    obtain ⟨j, rfl, hj⟩ := has_ex hk.1
    exact ((h9 j hj).2.2 hk.2).2 (by omega)
  · intro k hk
    obtain ⟨j, rfl, hj⟩ := has_ex hk.1
    exact ((h9 j hj).2.2 hk.2).1
theorem Fit.oneOk (h : Fit t) {q : Nat} (hq : q < t.nodes.length) : OneOk t q := ⟨h.one _ (has_nat hq), fun h2 => h.dirs _ ⟨has_nat hq, h2⟩⟩
theorem Fit.linkOk (h : Fit t) {q : Nat} (hq : q < t.nodes.length) : LinkOk t q := ⟨h.links _ (has_nat hq), fun h1 h2 => h.named _ ⟨has_nat hq, h1⟩ (by omega), fun h1 => ⟨h.rooted _ ⟨has_nat hq, h1⟩, fun h2 => h.once _ ⟨has_nat hq, h1⟩ (by omega)⟩⟩
theorem s9 (ok : t.Ok) (hn : t.nodes.length ≤ 300) (hz : t.Sz) : ∃ b, Gives C TP 9 [t.d] (.bool b) ∧ (b = true ↔ Fit t) := by
  have main : ∃ d, Gives C TP 9 [t.d] d ∧ ∃ b, d = .bool b ∧ (b = true ↔ Fit t) := by
    refine frz_ex rfl rfl (by simp only [refsL, Mm.refs, Tr.d, Tr.c, ok.ref, List.append_nil]) (body_h b9 (by show 1 ≤ 160; decide) ?_)
    have fin : ∀ (st : Store) (b : Bool), (b = true ↔ Fit t) → ∃ d, fz st 8 (.bool b) = some d ∧ ∃ b, d = .bool b ∧ (b = true ↔ Fit t) := fun st b h => ⟨_, fz_0 (by simp only [Mm.refs]), b, rfl, h⟩
    have bad : ∀ (st : Store), ¬ Fit t → ∃ d, fz st 8 (.bool false) = some d ∧ ∃ b, d = .bool b ∧ (b = true ↔ Fit t) := fun st h => fin st false (by simpa using h)
    simp -dsimp only [↓R0, RA, simprocAttr, ok.nd.lnV]
    by_cases g1 : (t.nodes.length : Int) < 1
    · simp -dsimp only [↓R0, RA, simprocAttr, g1]
      exact bad _ (fun h => by have := h.n1; omega)
    by_cases g2 : t.mx < t.nodes.length
    · simp -dsimp only [↓R0, RA, simprocAttr, decide_eq_false g1, g2]
      exact bad _ (fun h => by have := h.nmx; omega)
    by_cases g3 : 256 < t.mx
    · simp -dsimp only [↓R0, RA, simprocAttr, decide_eq_false g1, decide_eq_false g2, g3]
      exact bad _ (fun h => by have := h.mx; omega)
    by_cases g4 : t.mb < 0
    · simp -dsimp only [↓R0, RA, simprocAttr, decide_eq_false g1, decide_eq_false g2, decide_eq_false g3, g4]
      exact bad _ (fun h => by have := h.mb0; omega)
    have w65 : IntKind.i64.wrap 65536 = 65536 := by rw [w64] <;> omega
    by_cases g5 : 65536 < t.mb
    · simp -dsimp only [↓R0, RA, simprocAttr, decide_eq_false g1, decide_eq_false g2, decide_eq_false g3, decide_eq_false g4, g5]
      exact bad _ (fun h => by have := h.mb1; omega)
    have h0 : t.has 0 := ⟨by decide, by unfold Tr.n; omega⟩
    have hi0 : idxS 6 t.nd (.int .i64 0) = some (.fptr (rowsI t.nodes) 0) := Tr.ixh ok h0
    have c00 : (rowsI t.nodes)[0]? = some (.int .i64 (t.at 0).kind) := Tr.c0 h0
    have c05 : (rowsI t.nodes)[5]? = some (.int .i64 (t.at 0).up) := Tr.c5 h0
    by_cases g6 : (t.at 0).kind = 2
    rotate_left
    · simp -dsimp only [↓R0, RA, simprocAttr, decide_eq_false g1, decide_eq_false g2, decide_eq_false g3, decide_eq_false g4, decide_eq_false g5, hi0, c00, decide_eq_false g6]
      exact bad _ (fun h => g6 h.root.1)
    by_cases g7 : (t.at 0).up = 0
    rotate_left
    · simp -dsimp only [↓R0, RA, simprocAttr, decide_eq_false g1, decide_eq_false g2, decide_eq_false g3, decide_eq_false g4, decide_eq_false g5, hi0, c00, c05, decide_eq_true g6, decide_eq_false g7]
      exact bad _ (fun h => g7 h.root.2)
    simp -dsimp only [↓R0, RA, simprocAttr, decide_eq_false g1, decide_eq_false g2, decide_eq_false g3, decide_eq_false g4, decide_eq_false g5, hi0, c00, c05, decide_eq_true g6, decide_eq_true g7]
    have hmk : (True ∧ (0 : Int) ≤ (t.nodes.length : Int) ∧ ((8 : Nat) : Int) * (t.nodes.length : Int) ≤ 281474976710656 ∧ (t.nodes.length : Int) ≤ 281474976710656) = True := by
      simp only [true_and, eq_iff_iff, iff_true]; omega
    have hmk2 : (True ∧ (0 : Int) ≤ (t.nodes.length : Int) ∧ (8 : Int) * (t.nodes.length : Int) ≤ 281474976710656 ∧ (t.nodes.length : Int) ≤ 281474976710656) = True := by
      simp only [true_and, eq_iff_iff, iff_true]; omega
    simp -dsimp only [↓R0, RA, simprocAttr, hmk, hmk2, rep_zero, Int.toNat_natCast]
    refine hLoop_i (fun i : Nat => t.nodes.length - i) (fun i fr' st' => fr' 1 = .ptr 0 0 0 ∧ fr' 3 = .int .i64 t.nodes.length ∧ fr' 4 = .osl 1 0 1 0 t.nodes.length ∧ fr' 5 = .int .i64 (sumN i (fun q => (t.V q).data.size)) ∧ fr' 6 = .int .i64 i ∧ i ≤ t.nodes.length ∧ (∀ q, q < i → OneOk t q) ∧
      st'[0]? = some (.cells 0 true 24 t.c) ∧ 2 ≤ st'.length ∧ ∃ c : List Int, c.length = t.nodes.length ∧ (∀ j (h : j < c.length), c[j] = ((sumN i (fun q => cntE (t.V q).kids j) : Nat) : Int)) ∧ st'[1]? = some (.cells 0 true 3 (rowsN c))) 0
      ⟨rfl, rfl, rfl, by first | rfl | (rw [sumN_0]; rfl), rfl, Nat.zero_le _, fun q h => absurd h (by omega), rfl, by simp, List.replicate t.nodes.length 0, by simp, fun j h => by rw [sumN_0]; simp, rfl⟩ ?_
    rintro i fr st1 ⟨e1, e3, e4, e5, e6, hi, hone, hst0, hlen, c, hcl, hcj, hst1⟩
    simp -dsimp only [↓R0, RA, simprocAttr, e3, e6]
    apply hIf_d <;> intro hc
    · have hil : i < t.nodes.length := by omega
      have hk := has_nat (t := t) hil
      have hsz : (t.at (i : Int)).data.size ≤ 140737488355328 := hz.data _ (Tr.at_mem hk)
      obtain ⟨ba, ga, hba⟩ := s24 (x := t.at (i : Int)) (ok.kdk hk) hsz
      have hga : Gives C TP 24 [.agg [.int .i64 (t.at (i : Int)).kind, .int .i64 (t.at (i : Int)).mode, .int .i64 (t.at (i : Int)).links, .str (t.at (i : Int)).data, (t.at (i : Int)).kd, .int .i64 (t.at (i : Int)).up]] (.bool ba) := ga
      have hkd : ∀ st, lnV (some (t.at (i : Int)).kd) st = some (.int .i64 (t.at (i : Int)).kids.length, st) := fun st => Sl.lnV (ok.kdk hk)
      simp -dsimp only [↓R0, RA, simprocAttr, RQ, hc, e1, e6, hst0, Tr.ixh ok hk, Tr.crow hk, Tr.cle hk, Ino.row, app_get0, hCall_g hga, un]
      cases ba with
      | false =>
        simp -dsimp only [↓R0, RA, simprocAttr, RQ]
        exact bad _ (fun h => by have := hba.2 (h.one _ hk).1; cases this)
      | true =>
      have hal := hba.1 rfl
      simp -dsimp only [↓R0, RA, simprocAttr, RQ, w65, app_get0]
      by_cases k1 : (65536 : Int) < (t.at (i : Int)).data.size
      · simp -dsimp only [↓R0, RA, simprocAttr, RQ, k1]
        exact bad _ (fun h => by have := (h.one _ hk).2; omega)
      have hsum : sumN i (fun q => (t.V q).data.size) ≤ i * 65536 := sumN_bd (fun q hq => (hone q hq).1.2)
      have hwa : IntKind.i64.wrap ((sumN i (fun q => (t.V q).data.size) : Int) + (t.at (i : Int)).data.size) = (sumN (i + 1) (fun q => (t.V q).data.size) : Nat) := by
        rw [sumN_s, w64]
        · push_cast; rfl
        · omega
        · have : i * 65536 ≤ 300 * 65536 := Nat.mul_le_mul_right _ (by omega)
          omega
      have hwi : IntKind.i64.wrap ((i : Int) + 1) = ((i + 1 : Nat) : Int) := by rw [w64] <;> omega
      simp -dsimp only [↓R0, RA, simprocAttr, RQ, decide_eq_false k1, w65, e5, app_get0, hwa]
      by_cases k2 : (t.at (i : Int)).kind = 2
      · by_cases k3 : t.has (t.at (i : Int)).up
        rotate_left
        · simp -dsimp only [↓R0, RA, simprocAttr, RQ, decide_eq_true k2, e1, get_app hst0, app_get0, hCall_g (s25 ok), decide_eq_false k3, un]
          exact bad _ (fun h => k3 (h.dirs _ ⟨hk, k2⟩).1)
        by_cases k4 : (1024 : Int) < (t.at (i : Int)).kids.length
        · simp -dsimp only [↓R0, RA, simprocAttr, RQ, decide_eq_true k2, e1, get_app hst0, app_get0, hCall_g (s25 ok), decide_eq_true k3, un, hkd, k4]
          exact bad _ (fun h => by have := (h.dirs _ ⟨hk, k2⟩).2.1; omega)
        simp -dsimp only [↓R0, RA, simprocAttr, RQ, decide_eq_true k2, e1, e4, e6, get_app hst0, app_get0, hCall_g (s25 ok), decide_eq_true k3, un, hkd, decide_eq_false k4]
        refine hCall_c (d26 (cid := 1) (c := c) ok hn hk (by omega) (hz.name _ (Tr.at_mem hk)) (get_app hst1) hcl ?_) ?_
        · intro x hx
          obtain ⟨j, hj, rfl⟩ := List.getElem_of_mem hx
          rw [hcj j hj]
          have : sumN i (fun q => cntE (t.V q).kids j) ≤ i * 1024 := sumN_bd (fun q hq => Nat.le_trans cntE_le (hone q hq).kids_le)
          have : i * 1024 ≤ 300 * 1024 := Nat.mul_le_mul_right _ (by omega)
          omega
        rintro _ st2 ⟨hf, b, rfl, hb, hb2⟩
        have hst0' : st2[0]? = some (.cells 0 true 24 t.c) := hf.get (get_app hst0) (by decide)
        cases b with
        | false =>
          simp -dsimp only [↓R0, RA, simprocAttr, un, decide_eq_true k2, decide_eq_true k3, decide_eq_false k4]
          exact bad _ (fun h => by have := hb.2 (h.dirs _ ⟨hk, k2⟩).2.2; cases this)
        | true =>
        obtain ⟨c', q1, q2, q3⟩ := hb2 rfl
        simp -dsimp only [↓R0, RA, simprocAttr, un, decide_eq_true k2, decide_eq_true k3, decide_eq_false k4, e6, hwi]
        refine ⟨i + 1, by omega, (by first | trivial | (simp -dsimp only [R1, simprocAttr, e1]; done) | rfl), (by first | trivial | (simp -dsimp only [R1, simprocAttr, e3]; done) | rfl), (by first | trivial | (simp -dsimp only [R1, simprocAttr, e4]; done) | rfl), (by first | trivial | (simp -dsimp only [R1, simprocAttr]; done) | rfl), (by first | trivial | (simp -dsimp only [R1, simprocAttr]; done) | rfl), by omega, fun q hq => ?_, hst0', by have := hf.1; simp at this; omega, c', by omega, fun j hj => ?_, q3⟩
        · by_cases e : q = i
          · subst e; exact ⟨⟨hal, by omega⟩, fun _ => ⟨k3, by omega, hb.1 rfl⟩⟩
          · exact hone q (by omega)
        · rw [q2 j (by omega) hj, hcj j (by omega), sumN_s]
          push_cast; rfl
      · simp -dsimp only [↓R0, RA, simprocAttr, RQ, decide_eq_false k2, e6, hwi]
        have hoi : OneOk t i := ⟨⟨hal, by omega⟩, fun h => absurd h k2⟩
        refine ⟨i + 1, by omega, (by first | trivial | (simp -dsimp only [R1, simprocAttr, e1]; done) | rfl), (by first | trivial | (simp -dsimp only [R1, simprocAttr, e3]; done) | rfl), (by first | trivial | (simp -dsimp only [R1, simprocAttr, e4]; done) | rfl), (by first | trivial | (simp -dsimp only [R1, simprocAttr]; done) | rfl), (by first | trivial | (simp -dsimp only [R1, simprocAttr]; done) | rfl), by omega, fun q hq => ?_, get_app hst0, (by first | omega | (simp; omega)), c, hcl, fun j hj => ?_, get_app hst1⟩
        · by_cases e : q = i
          · subst e; exact hoi
          · exact hone q (by omega)
        · rw [hcj j hj, sumN_s]
          have : cntE (t.V i).kids j = 0 := by
            have h9 : (t.V i).kids = [] := hoi.nodir k2
            rw [h9]; rfl
          rw [this]; rfl
    · have hin : i = t.nodes.length := by omega
      subst hin
      have hcnt : ∀ j (h : j < c.length), c[j] = t.cnt (j : Int) := fun j h => by rw [hcj j h, cnt_V]; rfl
      (try simp -dsimp only [↓R0, RA, simprocAttr, hc])
      refine hLoop_i (fun i : Nat => t.nodes.length - i) (fun i fr' st' => fr' 1 = .ptr 0 0 0 ∧ fr' 3 = .int .i64 t.nodes.length ∧ fr' 4 = .osl 1 0 1 0 t.nodes.length ∧ fr' 5 = .int .i64 (sumN t.nodes.length (fun q => (t.V q).data.size)) ∧ fr' 8 = .int .i64 i ∧ i ≤ t.nodes.length ∧ (∀ q, q < i → LinkOk t q) ∧
        st'[0]? = some (.cells 0 true 24 t.c) ∧ st'[1]? = some (.cells 0 true 3 (rowsN c))) 0 ⟨(by first | trivial | (simp -dsimp only [R1, simprocAttr, e1]; done) | rfl), (by first | trivial | (simp -dsimp only [R1, simprocAttr, e3]; done) | rfl), (by first | trivial | (simp -dsimp only [R1, simprocAttr, e4]; done) | rfl), (by first | trivial | (simp -dsimp only [R1, simprocAttr, e5]; done) | rfl), rfl, Nat.zero_le _, fun q h => absurd h (by omega), hst0, hst1⟩ ?_
      rintro i fr2 st2 ⟨f1, f3, f4, f5, f8, hi2, hlk, p0, p1⟩
      simp -dsimp only [↓R0, RA, simprocAttr, f3, f8]
      apply hIf_d <;> intro hc2
      · have hil : i < t.nodes.length := by omega
        have hk := has_nat (t := t) hil
        have hic : i < c.length := by omega
        have hixc : idxS 1 (.osl 1 0 1 0 t.nodes.length) (.int .i64 (i : Int)) = some (.ptr 1 0 i) := by
          simp only [idxS, idx]
          rw [if_pos (by omega)]
          simp
        have hgc : (rowsN c)[i]? = some (.int .i64 (t.cnt (i : Int))) := by rw [rowsN_get hic, hcnt i hic]
        have hwi : IntKind.i64.wrap ((i : Int) + 1) = ((i + 1 : Nat) : Int) := by rw [w64] <;> omega
        by_cases k1 : (t.at (i : Int)).links = t.cnt (i : Int)
        rotate_left
        · simp -dsimp only [↓R0, RA, simprocAttr, RQ, hc2, f1, f4, f8, p0, get_app p1, Tr.ixh ok hk, Tr.crow hk, Tr.cle hk, Ino.row, app_get0, hixc, hgc, decide_eq_false k1]
          exact bad _ (fun h => k1 (h.linkOk hil).1)
        by_cases k2 : (t.at (i : Int)).kind ≠ 0 ∧ 0 < i ∧ t.cnt (i : Int) = 0
        · have k2a : ¬ (t.at (i : Int)).kind = 0 := k2.1
          have k2b : (0 : Int) < i := by omega
          have k2c : ((t.cnt (i : Int) : Nat) : Int) = 0 := by omega
          simp -dsimp only [↓R0, RA, simprocAttr, RQ, hc2, f1, f4, f8, p0, get_app p1, Tr.ixh ok hk, Tr.crow hk, Tr.cle hk, Ino.row, app_get0, hixc, hgc, decide_eq_true k1, decide_eq_false k2a, k2b, decide_eq_true k2c]
          exact bad _ (fun h => by have := (h.linkOk hil).2.1 k2.1 k2.2.1; omega)
        have hnext : ∀ b : Bool, True := fun _ => trivial
        by_cases k3 : (t.at (i : Int)).kind = 2
        · have k3a : ¬ (t.at (i : Int)).kind = 0 := by rw [k3]; decide
          by_cases k4 : rootN t (t.nodes.length + 1) i = true
          rotate_left
          · have k4' : rootN t (t.nodes.length + 1) i = false := by simpa using k4
            by_cases k5 : (0 : Int) < i
            · have k6 : ¬ ((t.cnt (i : Int) : Nat) : Int) = 0 := fun e => k2 ⟨k3a, by omega, by omega⟩
              simp -dsimp only [↓R0, RA, simprocAttr, RQ, hc2, f1, f4, f8, p0, get_app p0, get_app p1, Tr.ixh ok hk, Tr.crow hk, Tr.cle hk, Ino.row, app_get0, hixc, hgc, decide_eq_true k1, decide_eq_false k3a, k5, decide_eq_false k6, decide_eq_true k3, hCall_g (s27 ok hn hk), k4', un]
              exact bad _ (fun h => k4 ((h.linkOk hil).2.2 k3).1)
            · simp -dsimp only [↓R0, RA, simprocAttr, RQ, hc2, f1, f4, f8, p0, get_app p0, get_app p1, Tr.ixh ok hk, Tr.crow hk, Tr.cle hk, Ino.row, app_get0, hixc, hgc, decide_eq_true k1, decide_eq_false k3a, k5, decide_eq_true k3, hCall_g (s27 ok hn hk), k4', un]
              exact bad _ (fun h => k4 ((h.linkOk hil).2.2 k3).1)
          by_cases k5 : (0 : Int) < i
          · have k6 : ¬ ((t.cnt (i : Int) : Nat) : Int) = 0 := fun e => k2 ⟨k3a, by omega, by omega⟩
            by_cases k7 : ((t.cnt (i : Int) : Nat) : Int) = 1
            · simp -dsimp only [↓R0, RA, simprocAttr, RQ, hc2, f1, f4, f8, p0, get_app p0, get_app p1, Tr.ixh ok hk, Tr.crow hk, Tr.cle hk, Ino.row, app_get0, hixc, hgc, decide_eq_true k1, decide_eq_false k3a, k5, decide_eq_false k6, decide_eq_true k3, hCall_g (s27 ok hn hk), k4, un, decide_eq_true k7, hwi]
              refine ⟨i + 1, by omega, (by first | trivial | (simp -dsimp only [R1, simprocAttr, f1]; done) | rfl), (by first | trivial | (simp -dsimp only [R1, simprocAttr, f3]; done) | rfl), (by first | trivial | (simp -dsimp only [R1, simprocAttr, f4]; done) | rfl), (by first | trivial | (simp -dsimp only [R1, simprocAttr, f5]; done) | rfl), (by first | trivial | (simp -dsimp only [R1, simprocAttr]; done) | rfl), by omega, fun q hq => ?_, (by first | trivial | exact ⟨get_app p0, get_app p1⟩ | exact ⟨get_app p0, trivial⟩)⟩
              by_cases e : q = i
              · subst e; exact ⟨k1, fun _ _ => by omega, fun _ => ⟨k4, fun _ => by omega⟩⟩
              · exact hlk q (by omega)
            · simp -dsimp only [↓R0, RA, simprocAttr, RQ, hc2, f1, f4, f8, p0, get_app p0, get_app p1, Tr.ixh ok hk, Tr.crow hk, Tr.cle hk, Ino.row, app_get0, hixc, hgc, decide_eq_true k1, decide_eq_false k3a, k5, decide_eq_false k6, decide_eq_true k3, hCall_g (s27 ok hn hk), k4, un, decide_eq_false k7]
              exact bad _ (fun h => by have := ((h.linkOk hil).2.2 k3).2 (by omega); omega)
          · simp -dsimp only [↓R0, RA, simprocAttr, RQ, hc2, f1, f4, f8, p0, get_app p0, get_app p1, Tr.ixh ok hk, Tr.crow hk, Tr.cle hk, Ino.row, app_get0, hixc, hgc, decide_eq_true k1, decide_eq_false k3a, k5, decide_eq_true k3, hCall_g (s27 ok hn hk), k4, un, hwi]
            refine ⟨i + 1, by omega, (by first | trivial | (simp -dsimp only [R1, simprocAttr, f1]; done) | rfl), (by first | trivial | (simp -dsimp only [R1, simprocAttr, f3]; done) | rfl), (by first | trivial | (simp -dsimp only [R1, simprocAttr, f4]; done) | rfl), (by first | trivial | (simp -dsimp only [R1, simprocAttr, f5]; done) | rfl), (by first | trivial | (simp -dsimp only [R1, simprocAttr]; done) | rfl), by omega, fun q hq => ?_, (by first | trivial | exact ⟨get_app p0, get_app p1⟩ | exact ⟨get_app p0, trivial⟩)⟩
            by_cases e : q = i
            · subst e; exact ⟨k1, fun _ h => absurd h (by omega), fun _ => ⟨k4, fun h => absurd h (by omega)⟩⟩
            · exact hlk q (by omega)
        · have hadd : LinkOk t i := ⟨k1, fun h1 h2 => by rcases Nat.eq_zero_or_pos (t.cnt (i : Int)) with e | e; exact absurd ⟨h1, h2, e⟩ k2; exact e, fun h => absurd h k3⟩
          have hlk' : ∀ q, q < i + 1 → LinkOk t q := fun q hq => by
            by_cases e : q = i
            · subst e; exact hadd
            · exact hlk q (by omega)
          by_cases k3a : (t.at (i : Int)).kind = 0
          · simp -dsimp only [↓R0, RA, simprocAttr, RQ, hc2, f1, f4, f8, p0, get_app p1, Tr.ixh ok hk, Tr.crow hk, Tr.cle hk, Ino.row, app_get0, hixc, hgc, decide_eq_true k1, decide_eq_true k3a, decide_eq_false k3, hwi]
            exact ⟨i + 1, by omega, (by first | trivial | (simp -dsimp only [R1, simprocAttr, f1]; done) | rfl), (by first | trivial | (simp -dsimp only [R1, simprocAttr, f3]; done) | rfl), (by first | trivial | (simp -dsimp only [R1, simprocAttr, f4]; done) | rfl), (by first | trivial | (simp -dsimp only [R1, simprocAttr, f5]; done) | rfl), (by first | trivial | (simp -dsimp only [R1, simprocAttr]; done) | rfl), by omega, hlk', (by first | trivial | exact ⟨get_app p0, get_app p1⟩ | exact ⟨get_app p0, trivial⟩)⟩
          by_cases k5 : (0 : Int) < i
          · have k6 : ¬ ((t.cnt (i : Int) : Nat) : Int) = 0 := fun e => k2 ⟨k3a, by omega, by omega⟩
            simp -dsimp only [↓R0, RA, simprocAttr, RQ, hc2, f1, f4, f8, p0, get_app p1, Tr.ixh ok hk, Tr.crow hk, Tr.cle hk, Ino.row, app_get0, hixc, hgc, decide_eq_true k1, decide_eq_false k3a, k5, decide_eq_false k6, decide_eq_false k3, hwi]
            exact ⟨i + 1, by omega, (by first | trivial | (simp -dsimp only [R1, simprocAttr, f1]; done) | rfl), (by first | trivial | (simp -dsimp only [R1, simprocAttr, f3]; done) | rfl), (by first | trivial | (simp -dsimp only [R1, simprocAttr, f4]; done) | rfl), (by first | trivial | (simp -dsimp only [R1, simprocAttr, f5]; done) | rfl), (by first | trivial | (simp -dsimp only [R1, simprocAttr]; done) | rfl), by omega, hlk', (by first | trivial | exact ⟨get_app p0, get_app p1⟩ | exact ⟨get_app p0, trivial⟩)⟩
          · simp -dsimp only [↓R0, RA, simprocAttr, RQ, hc2, f1, f4, f8, p0, get_app p1, Tr.ixh ok hk, Tr.crow hk, Tr.cle hk, Ino.row, app_get0, hixc, hgc, decide_eq_true k1, decide_eq_false k3a, k5, decide_eq_false k3, hwi]
            exact ⟨i + 1, by omega, (by first | trivial | (simp -dsimp only [R1, simprocAttr, f1]; done) | rfl), (by first | trivial | (simp -dsimp only [R1, simprocAttr, f3]; done) | rfl), (by first | trivial | (simp -dsimp only [R1, simprocAttr, f4]; done) | rfl), (by first | trivial | (simp -dsimp only [R1, simprocAttr, f5]; done) | rfl), (by first | trivial | (simp -dsimp only [R1, simprocAttr]; done) | rfl), by omega, hlk', (by first | trivial | exact ⟨get_app p0, get_app p1⟩ | exact ⟨get_app p0, trivial⟩)⟩
      · simp -dsimp only [↓R0, RA, simprocAttr, hc2, f1, f5, p0]
        refine fin _ _ ?_
        rw [decide_eq_true_iff]
        have hin : i = t.nodes.length := by omega
        subst hin
        exact ⟨fun h => fit_of (by omega) (by omega) (by omega) (by omega) (by omega) g6 g7 hone hlk h, fun h => by have := h.bytes; rw [sum_V] at this; exact this⟩
  obtain ⟨_, h1, b, rfl, h2⟩ := main
  exact ⟨b, h1, h2⟩
end
section
variable {t : Tr} {st : Store}
theorem ent_same {a : ByteArray} {n : Int} : binM 21 .neq (.agg [.str a, .int .i64 n]) (.agg [.str a, .int .i64 n]) = some (.bool false) := by
  simp [binM, eqAgg, eqDig]
theorem s11 (hT : T t) : Gives C TP 11 [t.d, t.d] (.bool true) := by
  have hn := hT.n
  have ok := hT.ok
  refine gives_frz rfl rfl (by simp only [refsL, Mm.refs, Tr.d, Tr.c, ok.ref, List.append_nil]) (body_h b11 (by show 2 ≤ 107; decide) ?_)
  simp -dsimp only [↓R0, RA, simprocAttr, ok.nd.lnV]
  refine hLoop_i (fun i : Nat => t.nodes.length - i) (fun i fr' st' => fr' 2 = .ptr 0 0 0 ∧ fr' 3 = .ptr 1 0 0 ∧ fr' 5 = .int .i64 i ∧ i ≤ t.nodes.length ∧ st'[0]? = some (.cells 0 true 24 t.c) ∧ st'[1]? = some (.cells 0 true 24 t.c)) 0 ⟨rfl, rfl, rfl, Nat.zero_le _, rfl, rfl⟩ ?_
  rintro i fr st1 ⟨e2, e3, e5, hi, p0, p1⟩
  simp -dsimp only [↓R0, RA, simprocAttr, e2, e3, e5, p0, p1, ok.nd.lnV]
  apply hIf_d <;> intro hc
  rotate_left
  · simp -dsimp only [↓R0, RA, simprocAttr, hc]
    exact fz_b
  have hil : i < t.nodes.length := by omega
  have hk := has_nat (t := t) hil
  have hwi : IntKind.i64.wrap ((i : Int) + 1) = ((i + 1 : Nat) : Int) := by rw [w64] <;> omega
  have hkd : ∀ st, lnV (some (t.at (i : Int)).kd) st = some (.int .i64 (t.at (i : Int)).kids.length, st) := fun st => Sl.lnV (ok.kdk hk)
  have hkS := ok.kdk hk
  have hkl := hT.kids_le hk
  simp -dsimp only [↓R0, RA, simprocAttr, RQ, hc, e2, e3, e5, p0, get_app p1, Tr.ixh ok hk, Tr.crow hk, Tr.cle hk, Ino.row, app_get0, app_get, hkd]
  generalize hrow : [D.int .i64 (t.at (i : Int)).kind, .int .i64 (t.at (i : Int)).mode, .int .i64 (t.at (i : Int)).links, .str (t.at (i : Int)).data, (t.at (i : Int)).kd, .int .i64 (t.at (i : Int)).up] = row
  have r4 : row[4]? = some (t.at (i : Int)).kd := by rw [← hrow]; rfl
  have q0 : (st1 ++ [Blk.cells 0 true 38 row, Blk.cells 0 true 38 row])[st1.length]? = some (Blk.cells 0 true 38 row) := by rw [app_get0]; rfl
  have q1 : (st1 ++ [Blk.cells 0 true 38 row, Blk.cells 0 true 38 row])[st1.length + 1]? = some (Blk.cells 0 true 38 row) := by rw [app_get]; rfl
  have s0 : (st1 ++ [Blk.cells 0 true 38 row, Blk.cells 0 true 38 row])[0]? = some (.cells 0 true 24 t.c) := get_app p0
  have s1 : (st1 ++ [Blk.cells 0 true 38 row, Blk.cells 0 true 38 row])[1]? = some (.cells 0 true 24 t.c) := get_app p1
  (try simp only [List.append_assoc, List.cons_append, List.nil_append])
  generalize st1 ++ [Blk.cells 0 true 38 row, Blk.cells 0 true 38 row] = st2 at *
  refine hLoop_i (fun j : Nat => (t.at (i : Int)).kids.length - j) (fun j fr' st' => fr' 2 = .ptr 0 0 0 ∧ fr' 3 = .ptr 1 0 0 ∧ fr' 5 = .int .i64 i ∧ fr' 6 = .ptr st1.length 0 0 ∧ fr' 7 = .ptr (st1.length + 1) 0 0 ∧ fr' 8 = .int .i64 j ∧ j ≤ (t.at (i : Int)).kids.length ∧ st' = st2) 0 ⟨(by first | trivial | (simp -dsimp only [R1, simprocAttr, e2]; done) | rfl), (by first | trivial | (simp -dsimp only [R1, simprocAttr, e3]; done) | rfl), (by first | trivial | (simp -dsimp only [R1, simprocAttr, e5]; done) | rfl), by first | rfl | (simp; done), by first | rfl | (simp; done), rfl, Nat.zero_le _, rfl⟩ ?_
  rintro j fr2 _ ⟨f2, f3, f5, f6, f7, f8, hj, rfl⟩
  simp -dsimp only [↓R0, RA, simprocAttr, f6, f7, f8, q0, q1, r4, hkd]
  apply hIf_d <;> intro hc2
  · have hjl : j < (t.at (i : Int)).kids.length := by omega
    have c1 : (0 : Int) ≤ j := by omega
    have c2 : (j : Int) < ((t.at (i : Int)).kids.length : Nat) := by omega
    have hrow2 := rowsE_take (l := (t.at (i : Int)).kids) (j := j) (List.getElem?_eq_getElem hjl)
    have hle : (j * 2 + 2 ≤ (rowsE (t.at (i : Int)).kids).length) = True := by rw [rowsE_length]; simp; omega
    have hix : idxS 2 (t.at (i : Int)).kd (.int .i64 j) = some (.fptr (rowsE (t.at (i : Int)).kids) (j * 2)) := Sl.ix hkS c1 c2
    have hwj : IntKind.i64.wrap ((j : Int) + 1) = ((j + 1 : Nat) : Int) := by rw [w64] <;> omega
    simp -dsimp only [↓R0, RA, simprocAttr, hc2, f6, f7, f8, q0, q1, r4, hix, hle, hrow2, Ent.row, ent_same, hwj]
    exact ⟨j + 1, by omega, (by first | trivial | (simp -dsimp only [R1, simprocAttr, f2]; done) | rfl), (by first | trivial | (simp -dsimp only [R1, simprocAttr, f3]; done) | rfl), (by first | trivial | (simp -dsimp only [R1, simprocAttr, f5]; done) | rfl), (by first | trivial | (simp -dsimp only [R1, simprocAttr, f6]; done) | rfl), (by first | trivial | (simp -dsimp only [R1, simprocAttr, f7]; done) | rfl), (by first | trivial | (simp -dsimp only [R1, simprocAttr]; done) | rfl), by omega, by first | trivial | rfl⟩
  · simp -dsimp only [↓R0, RA, simprocAttr, hc2, f5, hwi]
    exact ⟨i + 1, by omega, (by first | trivial | (simp -dsimp only [R1, simprocAttr, f2]; done) | rfl), (by first | trivial | (simp -dsimp only [R1, simprocAttr, f3]; done) | rfl), (by first | trivial | (simp -dsimp only [R1, simprocAttr]; done) | rfl), by omega, by first | trivial | exact ⟨s0, s1⟩⟩
theorem s10 (hT : T t) {cwd : Int} : ∃ s : ByteArray, Gives C TP 10 [t.d, .int .i64 cwd] (.str s) ∧ (s = emS ↔ ¬ t.dir cwd) := by
  have main : ∃ d, Gives C TP 10 [t.d, .int .i64 cwd] d ∧ ∃ s : ByteArray, d = .str s ∧ (s = emS ↔ ¬ t.dir cwd) := by
    have hn := hT.n
    have ok := hT.ok
    refine frz_ex rfl rfl (ref1 ok) (body_h b10 (by show 2 ≤ 71; decide) ?_)
    have fin : ∀ (st : Store) (s : ByteArray), (s = emS ↔ ¬ t.dir cwd) → ∃ d, fz st 8 (.str s) = some d ∧ ∃ s : ByteArray, d = .str s ∧ (s = emS ↔ ¬ t.dir cwd) := fun st s h => ⟨_, fz_0 (by simp only [Mm.refs]), s, rfl, h⟩
    simp -dsimp only [↓R0, RA, simprocAttr, hCall_g (s25 ok), un]
    by_cases h1 : t.has cwd
    rotate_left
    · simp -dsimp only [↓R0, RA, simprocAttr, decide_eq_false h1]
      exact fin _ _ ⟨fun _ h => h1 h.1, fun _ => rfl⟩
    simp -dsimp only [↓R0, RA, simprocAttr, decide_eq_true h1, Tr.ixh ok h1, Tr.c0 h1, un]
    by_cases h2 : (t.at cwd).kind = 2
    rotate_left
    · simp -dsimp only [↓R0, RA, simprocAttr, decide_eq_false h2]
      exact fin _ _ ⟨fun _ h => h2 h.2, fun _ => rfl⟩
    simp -dsimp only [↓R0, RA, simprocAttr, decide_eq_true h2]
    have hdir : t.dir cwd := ⟨h1, h2⟩
    obtain ⟨B, hB⟩ : ∃ B : Nat, B = 200000 := ⟨_, rfl⟩
    refine hLoop_i (fun a : Nat × Int × ByteArray => t.nodes.length + 1 - a.1) (fun a fr' st' => fr' 1 = .int .i64 a.2.1 ∧ fr' 2 = .ptr 0 0 0 ∧ fr' 5 = .str a.2.2 ∧ fr' 6 = .int .i64 a.1 ∧ a.1 ≤ t.nodes.length + 1 ∧ t.dir a.2.1 ∧ a.2.2.size ≤ a.1 * B ∧ st' = [.cells 0 true 24 t.c]) (0, cwd, emS) ⟨rfl, rfl, rfl, rfl, Nat.zero_le _, hdir, Nat.zero_le _, rfl⟩ ?_
    rintro ⟨i, k, s⟩ fr st1 ⟨e1, e2, e5, e6, hi, hk, hs, rfl⟩
    simp only [] at e1 e5 e6 hi hk hs
    simp -dsimp only [↓R0, RA, simprocAttr, e1, e2, e5, e6, ok.nd.lnV]
    have hout : ∀ fr : Fr, True := fun _ => trivial
    by_cases g1 : k = 0
    · simp -dsimp only [↓R0, RA, simprocAttr, decide_eq_true g1, e5]
      apply hIf_d <;> intro g3
      · simp -dsimp only [↓R0, RA, simprocAttr, decide_eq_true g3]
        exact fin _ _ ⟨fun h => absurd h (by decide), fun h => absurd hdir h⟩
      · simp -dsimp only [↓R0, RA, simprocAttr, decide_eq_false g3, e5]
        exact fin _ _ ⟨fun h => absurd h g3, fun h => absurd hdir h⟩
    by_cases g2 : (i : Int) ≤ t.nodes.length
    rotate_left
    · simp -dsimp only [↓R0, RA, simprocAttr, decide_eq_false g1, g2, e2, e6, ok.nd.lnV, e5]
      apply hIf_d <;> intro g3
      · simp -dsimp only [↓R0, RA, simprocAttr, decide_eq_true g3]
        exact fin _ _ ⟨fun h => absurd h (by decide), fun h => absurd hdir h⟩
      · simp -dsimp only [↓R0, RA, simprocAttr, decide_eq_false g3, e5]
        exact fin _ _ ⟨fun h => absurd h g3, fun h => absurd hdir h⟩
    have hu := hT.up hk
    simp -dsimp only [↓R0, RA, simprocAttr, decide_eq_false g1, g2, e1, e2, e6, ok.nd.lnV, Tr.ixh ok hk.1, Tr.c5 hk.1, Tr.ixh ok hu.1, Tr.c4 hu.1]
    have hkS := hT.kds hu.1
    have hkl := hT.kids_le hu.1
    have hnames := (hT.fit.dirs _ hu).2.2.name
    generalize (t.at (t.at k).up).kids = l at *
    generalize (t.at (t.at k).up).kd = kd at *
    refine hLoop_i (fun b : Nat × ByteArray => l.length - b.1) (fun b fr' st' => fr' 1 = .int .i64 k ∧ fr' 2 = .ptr 0 0 0 ∧ fr' 5 = .str b.2 ∧ fr' 6 = .int .i64 i ∧ fr' 7 = .int .i64 (t.at k).up ∧ fr' 8 = kd ∧ fr' 9 = .int .i64 b.1 ∧ b.1 ≤ l.length ∧ b.2.size ≤ i * B + b.1 * 65 ∧ st' = [.cells 0 true 24 t.c]) (0, s) ⟨(by first | trivial | (simp -dsimp only [R1, simprocAttr, e1]; done) | rfl), (by first | trivial | (simp -dsimp only [R1, simprocAttr, e2]; done) | rfl), (by first | trivial | (simp -dsimp only [R1, simprocAttr, e5]; done) | rfl), (by first | trivial | (simp -dsimp only [R1, simprocAttr, e6]; done) | rfl), rfl, rfl, rfl, Nat.zero_le _, by simp only []; omega, by first | rfl | trivial⟩ ?_
    rintro ⟨j, s'⟩ fr2 st2 ⟨f1, f2, f5, f6, f7, f8, f9, hj, hs', rfl⟩
    simp only [] at f5 f9 hj hs'
    simp -dsimp only [↓R0, RA, simprocAttr, f8, f9, hkS.lnV]
    apply hIf_d <;> intro hc2
    · have hjl : j < l.length := by omega
      have c1 : (0 : Int) ≤ j := by omega
      have c2 : (j : Int) < (l.length : Nat) := by omega
      have hix : idxS 2 kd (.int .i64 j) = some (.fptr (rowsE l) (j * 2)) := hkS.ix c1 c2
      have r0 : (rowsE l)[j * 2]? = some (.str l[j].name) := rowsE_get (List.getElem?_eq_getElem hjl) 0 (by omega)
      have r1 : (rowsE l)[j * 2 + 1]? = some (.int .i64 l[j].ino) := rowsE_get (List.getElem?_eq_getElem hjl) 1 (by omega)
      have hwj : IntKind.i64.wrap ((j : Int) + 1) = ((j + 1 : Nat) : Int) := by rw [w64] <;> omega
      have hn64 := (nameOk_iff.1 (hnames _ (List.getElem_mem hjl))).2.1
      simp -dsimp only [↓R0, RA, simprocAttr, hc2, f1, f8, f9, hix, r1]
      apply hIf_d <;> intro h3
      · have b1 : i * B ≤ 257 * B := Nat.mul_le_mul_right _ (by omega)
        have b2 : j * 65 ≤ 1024 * 65 := Nat.mul_le_mul_right _ (by omega)
        have a1 : binM 0 .add (.str ⟨#[47]⟩) (.str l[j].name) = some (.str (slS ++ l[j].name)) := s_add (by show 1 + _ ≤ _; omega)
        have a2 : binM 0 .add (.str (slS ++ l[j].name)) (.str s') = some (.str (slS ++ l[j].name ++ s')) := s_add (by rw [ByteArray.size_append, sz_sl]; omega)
        simp -dsimp only [↓R0, RA, simprocAttr, decide_eq_true h3, f5, f8, f9, hix, r0, a1, a2, hwj]
        refine ⟨(j + 1, slS ++ l[j].name ++ s'), by simp only []; omega, (by first | trivial | (simp -dsimp only [R1, simprocAttr, f1]; done) | rfl), (by first | trivial | (simp -dsimp only [R1, simprocAttr, f2]; done) | rfl), (by first | trivial | (simp -dsimp only [R1, simprocAttr]; done) | rfl), (by first | trivial | (simp -dsimp only [R1, simprocAttr, f6]; done) | rfl), (by first | trivial | (simp -dsimp only [R1, simprocAttr, f7]; done) | rfl), (by first | trivial | (simp -dsimp only [R1, simprocAttr, f8]; done) | rfl), (by first | trivial | (simp -dsimp only [R1, simprocAttr]; done) | rfl), by simp only []; omega, ?_, by first | trivial | rfl⟩
        simp only [ByteArray.size_append, sz_sl, Nat.add_mul, Nat.one_mul]
        omega
      · simp -dsimp only [↓R0, RA, simprocAttr, decide_eq_false h3, f9, hwj]
        refine ⟨(j + 1, s'), by simp only []; omega, (by first | trivial | (simp -dsimp only [R1, simprocAttr, f1]; done) | rfl), (by first | trivial | (simp -dsimp only [R1, simprocAttr, f2]; done) | rfl), (by first | trivial | (simp -dsimp only [R1, simprocAttr, f5]; done) | rfl), (by first | trivial | (simp -dsimp only [R1, simprocAttr, f6]; done) | rfl), (by first | trivial | (simp -dsimp only [R1, simprocAttr, f7]; done) | rfl), (by first | trivial | (simp -dsimp only [R1, simprocAttr, f8]; done) | rfl), (by first | trivial | (simp -dsimp only [R1, simprocAttr]; done) | rfl), by simp only []; omega, ?_, by first | trivial | rfl⟩
        simp only [Nat.add_mul, Nat.one_mul]; omega
    · have hwi : IntKind.i64.wrap ((i : Int) + 1) = ((i + 1 : Nat) : Int) := by rw [w64] <;> omega
      simp -dsimp only [↓R0, RA, simprocAttr, hc2, f6, f7, hwi]
      refine ⟨(i + 1, (t.at k).up, s'), by simp only []; omega, (by first | trivial | (simp -dsimp only [R1, simprocAttr]; done) | rfl), (by first | trivial | (simp -dsimp only [R1, simprocAttr, f2]; done) | rfl), (by first | trivial | (simp -dsimp only [R1, simprocAttr, f5]; done) | rfl), (by first | trivial | (simp -dsimp only [R1, simprocAttr]; done) | rfl), by simp only []; omega, hu, ?_, by first | trivial | rfl⟩
      have b2 : j * 65 ≤ 1024 * 65 := Nat.mul_le_mul_right _ (by omega)
      simp only [Nat.add_mul, Nat.one_mul]; omega
  obtain ⟨_, h1, s, rfl, h2⟩ := main
  exact ⟨s, h1, h2⟩
end
end Go.Mm
end
section
namespace Go.Mm
open Go.Proofs
variable [Globs]
set_option maxRecDepth 8000
open Go.Proofs.Tryz renaming prog → TP
section
variable {t : Tr} {st : Store} {cwd : Int} {nm : ByteArray} {l : List ByteArray} {d : D}
theorem s7 : Gives C TP 7 [] (.bool true) := ⟨400, fun st => by kernel_rfl⟩
end
section
variable {t : Tr} {st : Store} {cwd : Int} {nm : ByteArray} {l : List ByteArray} {d : D}
variable [GOk]
theorem s6 (ok : t.Ok) (hz : t.Sz) (hd : Sl l.length (rowsS l) d) (hs : ∀ x ∈ l, x.size ≤ 140737488355328) (hll : l.length ≤ 140737488355328) :
    ∃ b, Gives C TP 6 [t.d, d] (.bool b) ∧ (b = true → (l.map ByteArray.size).sum ≤ 3000 ∧ l.length ≤ 20 ∧ T t) := by
  have main : ∃ r, Gives C TP 6 [t.d, d] r ∧ ∃ b, r = .bool b ∧ (b = true → (l.map ByteArray.size).sum ≤ 3000 ∧ l.length ≤ 20 ∧ T t) := by
    refine mv_ex rfl rfl (by simp only [refsL, Mm.refs, Tr.d, Tr.c, ok.ref, sl_refs hd rowsS_refs, List.append_nil]) (body_h b6 (by show 2 ≤ 41; decide) ?_)
    have fin : ∀ (st : Store) (b : Bool), (b = true → (l.map ByteArray.size).sum ≤ 3000 ∧ l.length ≤ 20 ∧ T t) → ∃ d, fz st 8 (.bool b) = some d ∧ ∃ b, d = .bool b ∧ (b = true → (l.map ByteArray.size).sum ≤ 3000 ∧ l.length ≤ 20 ∧ T t) := fun st b h => ⟨_, fz_0 (by simp only [Mm.refs]), b, rfl, h⟩
    simp -dsimp only [↓R0, RA, simprocAttr]
    refine hLoop_i (fun i : Nat => l.length - i) (fun i fr' st' => fr' 1 = d ∧ fr' 2 = .ptr 0 0 0 ∧ fr' 5 = .int .i64 (((l.take i).map ByteArray.size).sum : Nat) ∧ fr' 6 = .int .i64 i ∧ i ≤ l.length ∧ ((l.take i).map ByteArray.size).sum ≤ 140737488360000 ∧ st' = [.cells 0 true 24 t.c]) 0 ⟨rfl, rfl, rfl, rfl, Nat.zero_le _, by simp, rfl⟩ ?_
    rintro i fr st1 ⟨e1, e2, e5, e6, hi, hsum, rfl⟩
    simp -dsimp only [↓R0, RA, simprocAttr, e1, e5, e6, hd.lnV]
    by_cases hc : (i : Int) < l.length
    · by_cases hc2 : (((l.take i).map ByteArray.size).sum : Int) ≤ 3000
      · have hil : i < l.length := by omega
        have hx := hs _ (List.getElem_mem hil)
        have hix : idxS 1 d (.int .i64 i) = some (.fptr (rowsS l) i) := by rw [hd.ix (by omega) (by omega), Int.toNat_natCast, Nat.mul_one]
        have hwi : IntKind.i64.wrap ((i : Int) + 1) = ((i + 1 : Nat) : Int) := by rw [w64] <;> omega
        have hnx : ((l.take (i + 1)).map ByteArray.size).sum = ((l.take i).map ByteArray.size).sum + l[i].size := by
          rw [List.take_add_one, List.getElem?_eq_getElem hil]
          simp only [Option.toList_some, List.map_append, List.map_cons, List.map_nil, List.sum_append, List.sum_cons, List.sum_nil]; omega
        have hwa : IntKind.i64.wrap ((((l.take i).map ByteArray.size).sum : Int) + l[i].size) = (((l.take (i + 1)).map ByteArray.size).sum : Nat) := by
          rw [hnx, w64] <;> omega
        simp -dsimp only [↓R0, RA, simprocAttr, hc, hc2, e1, e5, e6, hix, rowsS_get hil, hwa, hwi]
        exact ⟨i + 1, by omega, (by first | trivial | (simp -dsimp only [R1, simprocAttr, e1]; done) | rfl), (by first | trivial | (simp -dsimp only [R1, simprocAttr, e2]; done) | rfl), (by first | trivial | (simp -dsimp only [R1, simprocAttr]; done) | rfl), (by first | trivial | (simp -dsimp only [R1, simprocAttr]; done) | rfl), by omega, by omega, by first | trivial | rfl⟩
      · simp -dsimp only [↓R0, RA, simprocAttr, hc, hc2, e5]
        exact fin _ _ (fun h => by cases h)
    · have hin : l.take i = l := List.take_of_length_le (by omega)
      rw [hin] at e5 hsum
      by_cases k1 : ((l.map ByteArray.size).sum : Int) ≤ 3000
      rotate_left
      · simp -dsimp only [↓R0, RA, simprocAttr, hc, e5, k1]
        exact fin _ _ (fun h => by cases h)
      by_cases k2 : (l.length : Int) ≤ 20
      rotate_left
      · simp -dsimp only [↓R0, RA, simprocAttr, hc, e1, e5, k1, hd.lnV, k2]
        exact fin _ _ (fun h => by cases h)
      by_cases k3 : (t.nodes.length : Int) ≤ 300
      rotate_left
      · simp -dsimp only [↓R0, RA, simprocAttr, hc, e1, e2, e5, k1, hd.lnV, k2, ok.nd.lnV, k3]
        exact fin _ _ (fun h => by cases h)
      obtain ⟨b, hg, hb⟩ := s9 ok (by omega) hz
      simp -dsimp only [↓R0, RA, simprocAttr, hc, e1, e2, e5, k1, hd.lnV, k2, ok.nd.lnV, k3, hCall_g hg]
      exact fin _ _ (fun h => ⟨by omega, by omega, ok, hb.1 (by simpa using h)⟩)
  obtain ⟨_, h1, b, rfl, h2⟩ := main
  exact ⟨b, h1, h2⟩
theorem kept_sz (hT : T t) : t.Sz := by
  have key : ∀ x ∈ t.nodes, ∃ i : Nat, i < t.nodes.length ∧ t.at (i : Int) = x := by
    intro x hx
    obtain ⟨i, hi, rfl⟩ := List.getElem_of_mem hx
    exact ⟨i, hi, at_nat hi⟩
  refine ⟨?_, ?_, ?_⟩
  · intro x hx
    obtain ⟨i, hi, rfl⟩ := key x hx
    have := (hT.fit.one _ (has_nat hi)).2
    omega
  · intro x hx e he
    obtain ⟨i, hi, rfl⟩ := key x hx
    have hoi := hT.fit.oneOk hi
    by_cases hk : (t.at (i : Int)).kind = 2
    · have := (nameOk_iff.1 ((hoi.2 hk).2.2.name e he)).2.1
      omega
    · rw [hoi.nodir hk] at he; cases he
  · intro x hx
    obtain ⟨i, hi, rfl⟩ := key x hx
    have := hT.kids_le (has_nat hi)
    omega
theorem s9t (hT : T t) : Gives C TP 9 [t.d] (.bool true) := by
  obtain ⟨b, h1, h2⟩ := s9 hT.ok (by have := hT.n; omega) (kept_sz hT)
  rw [h2.2 hT.fit] at h1
  exact h1
theorem w3 (ok : t.Ok) (hz : t.Sz) (hd : Sl l.length (rowsS l) d) (hs : ∀ x ∈ l, x.size ≤ 140737488355328) (hll : l.length ≤ 140737488355328) :
    BodyW C TP 3 [t.d, .int .i64 cwd, .str nm, d] [] fun r _ => r = .bool true := by
  refine body_h b3 (by show 4 ≤ 67; decide) ?_
  obtain ⟨b, g6, hb⟩ := s6 ok hz hd hs hll
  simp -dsimp only [↓R0, RA, simprocAttr, hCall_g g6, un]
  cases b with
  | false =>
    simp -dsimp only [↓R0, RA, simprocAttr, hCall_g s7]
  | true =>
  obtain ⟨h1, h2, hT⟩ := hb rfl
  obtain ⟨_, g8, t', x, s', rfl, hD⟩ := s8 (cwd := cwd) (nm := nm) hT hd h1 h2
  obtain ⟨p1, gp1, hp1⟩ := s10 hT (cwd := cwd)
  obtain ⟨p2, gp2, hp2⟩ := s10 hD.kept.1 (cwd := cwd)
  simp -dsimp only [↓R0, RA, simprocAttr, hCall_g g8, hCall_g (s9t hD.kept.1), ld24, un, hCall_g gp1]
  have hsame : t' = t → Gives C TP 11 [t.d, t'.d] (.bool true) := by rintro rfl; exact s11 hT
  have hp : (p1 = emS) ∨ (¬ p1 = emS ∧ ¬ p2 = emS) := by
    by_cases h : p1 = emS
    · exact .inl h
    · refine .inr ⟨h, fun e => hp2.1 e (hD.kept.2 ?_)⟩
      exact Classical.not_not.1 fun hn => h (hp1.2 hn)
  have n0 : ¬ ((0 : Int) < 0) := by decide
  have n1 : ¬ ((1 : Int) < 0) := by decide
  have n2 : ¬ ((2 : Int) < 0) := by decide
  have n3 : ¬ ((127 : Int) < 0) := by decide
  have m0 : ¬ ((2 : Int) < 0) := by decide
  have m1 : ¬ ((2 : Int) < 1) := by decide
  have m2 : ¬ ((2 : Int) < 2) := by decide
  have m3 : (2 : Int) < 127 := by decide
  have k0 : (0 : Int) < 2 := by decide
  have k1 : (1 : Int) < 2 := by decide
  have k3 : ¬ ((127 : Int) < 2) := by decide
  rcases hp with hp | ⟨hp, hq⟩
  · rcases hD.stat with rfl | rfl | ⟨rfl | rfl, he⟩
    · by_cases hls : nm = lsS
      · simp -dsimp only [↓R0, RA, simprocAttr, decide_eq_true hp, un, n0, n1, n2, n3, m0, m1, m2, m3, k0, k1, k3, decide_eq_true hls, ld24, hCall_g (hsame (hD.ls hls)), hCall_g s7]
      · simp -dsimp only [↓R0, RA, simprocAttr, decide_eq_true hp, un, n0, n1, n2, n3, m0, m1, m2, m3, k0, k1, k3, decide_eq_false hls, ld24, hCall_g s7]
    · by_cases hls : nm = lsS
      · simp -dsimp only [↓R0, RA, simprocAttr, decide_eq_true hp, un, n0, n1, n2, n3, m0, m1, m2, m3, k0, k1, k3, decide_eq_true hls, ld24, hCall_g (hsame (hD.ls hls)), hCall_g s7]
      · simp -dsimp only [↓R0, RA, simprocAttr, decide_eq_true hp, un, n0, n1, n2, n3, m0, m1, m2, m3, k0, k1, k3, decide_eq_false hls, ld24, hCall_g s7]
    · by_cases hls : nm = lsS
      · simp -dsimp only [↓R0, RA, simprocAttr, decide_eq_true hp, un, n0, n1, n2, n3, m0, m1, m2, m3, k0, k1, k3, decide_eq_true hls, ld24, hCall_g (hsame he), hCall_g s7]
      · simp -dsimp only [↓R0, RA, simprocAttr, decide_eq_true hp, un, n0, n1, n2, n3, m0, m1, m2, m3, k0, k1, k3, decide_eq_false hls, ld24, hCall_g (hsame he), hCall_g s7]
    · by_cases hls : nm = lsS
      · simp -dsimp only [↓R0, RA, simprocAttr, decide_eq_true hp, un, n0, n1, n2, n3, m0, m1, m2, m3, k0, k1, k3, decide_eq_true hls, ld24, hCall_g (hsame he), hCall_g s7]
      · simp -dsimp only [↓R0, RA, simprocAttr, decide_eq_true hp, un, n0, n1, n2, n3, m0, m1, m2, m3, k0, k1, k3, decide_eq_false hls, ld24, hCall_g (hsame he), hCall_g s7]
  · rcases hD.stat with rfl | rfl | ⟨rfl | rfl, he⟩
    · by_cases hls : nm = lsS
      · simp -dsimp only [↓R0, RA, simprocAttr, decide_eq_false hp, hCall_g gp2, decide_eq_false hq, un, n0, n1, n2, n3, m0, m1, m2, m3, k0, k1, k3, decide_eq_true hls, ld24, hCall_g (hsame (hD.ls hls)), hCall_g s7]
      · simp -dsimp only [↓R0, RA, simprocAttr, decide_eq_false hp, hCall_g gp2, decide_eq_false hq, un, n0, n1, n2, n3, m0, m1, m2, m3, k0, k1, k3, decide_eq_false hls, ld24, hCall_g s7]
    · by_cases hls : nm = lsS
      · simp -dsimp only [↓R0, RA, simprocAttr, decide_eq_false hp, hCall_g gp2, decide_eq_false hq, un, n0, n1, n2, n3, m0, m1, m2, m3, k0, k1, k3, decide_eq_true hls, ld24, hCall_g (hsame (hD.ls hls)), hCall_g s7]
      · simp -dsimp only [↓R0, RA, simprocAttr, decide_eq_false hp, hCall_g gp2, decide_eq_false hq, un, n0, n1, n2, n3, m0, m1, m2, m3, k0, k1, k3, decide_eq_false hls, ld24, hCall_g s7]
    · by_cases hls : nm = lsS
      · simp -dsimp only [↓R0, RA, simprocAttr, decide_eq_false hp, hCall_g gp2, decide_eq_false hq, un, n0, n1, n2, n3, m0, m1, m2, m3, k0, k1, k3, decide_eq_true hls, ld24, hCall_g (hsame he), hCall_g s7]
      · simp -dsimp only [↓R0, RA, simprocAttr, decide_eq_false hp, hCall_g gp2, decide_eq_false hq, un, n0, n1, n2, n3, m0, m1, m2, m3, k0, k1, k3, decide_eq_false hls, ld24, hCall_g (hsame he), hCall_g s7]
    · by_cases hls : nm = lsS
      · simp -dsimp only [↓R0, RA, simprocAttr, decide_eq_false hp, hCall_g gp2, decide_eq_false hq, un, n0, n1, n2, n3, m0, m1, m2, m3, k0, k1, k3, decide_eq_true hls, ld24, hCall_g (hsame he), hCall_g s7]
      · simp -dsimp only [↓R0, RA, simprocAttr, decide_eq_false hp, hCall_g gp2, decide_eq_false hq, un, n0, n1, n2, n3, m0, m1, m2, m3, k0, k1, k3, decide_eq_false hls, ld24, hCall_g (hsame he), hCall_g s7]
end
end Go.Mm
end
