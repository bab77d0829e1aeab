/- A part of the proof of FilesFitCardSaid: S55, S56. -/
import Derived.Test.YtamefnngdhbjiaaGreatDoorFitB0
import Derived.Test.YtamefnngdhbjiaaGreatDoorFitA6
set_option linter.all false
section
namespace Go.Mm
open Go.Proofs
variable [Globs]
set_option maxRecDepth 8000
open Go.Proofs.Tryz renaming prog → TP
section
def C2 : Cfg where
  mode f := if f = 145 then .keep else .thread
  ro _ := false
  ext _ := none
  fp _ := none
  fpOk _ _ _ h := by cases h
def Two (st st' : Store) : Prop := st'[0]? = st[0]? ∧ st'[1]? = st[1]?
theorem Two.trans {a b c : Store} (h : Two a b) (h' : Two b c) : Two a c := ⟨h'.1.trans h.1, h'.2.trans h.2⟩
variable {st : Store} {v xv n : Nat} {rw : Bool} {ty : TypeId} {l : List Ent} {nm : ByteArray} {x y : Int}
theorem e146 {e : Ent} (hb : st[1]? = some (.cells xv rw ty [.int .i64 x, .str nm, .int .i64 y])) :
    CallW C2 TP 146 [.agg e.row, .ptr 1 xv 0] st fun d st' => d = .bool (decide (e.name = nm)) ∧ st' = st ++ [.cells 0 true 71 e.row] := by
  refine call_th rfl rfl (body_h b146 (by show 2 ≤ 9; decide) ?_)
  simp -dsimp only [↓R0, RA, simprocAttr, RQ, Ent.row, get_app hb]
theorem row_at {i : Nat} (h : i < l.length) : ((rowsE l).drop (i * 2)).take 2 = l[i].row := by
  rw [rowsE_dropN, List.drop_eq_getElem_cons h, rowsE_cons]; rfl
theorem e166 (hb0 : st[0]? = some (.cells v true 71 (rowsE l))) (hb1 : st[1]? = some (.cells xv rw ty [.int .i64 x, .str nm, .int .i64 y])) (hn : l.length < 1000000) :
    CallW C2 TP 166 [.osl 0 v 2 0 l.length, .fn 146 [.ptr 1 xv 0]] st fun d st' => Two st st' ∧ ((d = .int .i64 (-1) ∧ ∀ e ∈ l, e.name ≠ nm) ∨ ∃ k, ∃ hk : k < l.length, d = .int .i64 k ∧ l[k].name = nm ∧ ∀ e ∈ l.take k, e.name ≠ nm) := by
  refine call_th rfl rfl (body_h b166 (by show 2 ≤ 19; decide) ?_)
  simp -dsimp only [↓R0, RA, simprocAttr, RQ]
  refine hLoop_i (fun i : Nat => l.length - i) (fun i fr' st' => fr' 0 = .osl 0 v 2 0 l.length ∧ fr' 1 = .fn 146 [.ptr 1 xv 0] ∧ fr' 7 = .int .i64 l.length ∧ fr' 8 = .int .i64 i ∧ i ≤ l.length ∧ Two st st' ∧ ∀ e ∈ l.take i, e.name ≠ nm) 0 ⟨rfl, rfl, rfl, rfl, Nat.zero_le _, ⟨rfl, rfl⟩, by simp⟩ ?_
  rintro i fr st1 ⟨h0, h1, h7, h8, hi, hT, hne⟩
  simp -dsimp only [↓R0, RA, simprocAttr, h7, h8]
  apply hIf_d <;> intro hc
  · have hil : i < l.length := by omega
    have a1 : (0 : Int) ≤ i := by omega
    have a2 : (i : Int) < (l.length : Nat) := by omega
    have hle : (i * 2 + 2 ≤ (rowsE l).length) = True := by rw [rowsE_length]; simp; omega
    have k0 := hT.1.trans hb0
    have k1 := hT.2.trans hb1
    simp -dsimp only [↓R0, RA, simprocAttr, hc, h0, h1, h8, osl_ix a1 a2, Int.toNat_natCast, k0, hle, row_at hil]
    refine hCall_c (e146 k1) ?_
    rintro _ st2 ⟨rfl, rfl⟩
    simp -dsimp only [↓R0, RA, simprocAttr]
    have hT2 : Two st (st1 ++ [.cells 0 true 71 l[i].row]) := hT.trans ⟨by rw [get_app k0, k0], by rw [get_app k1, k1]⟩
    apply hIf_d <;> intro h2
    · simp -dsimp only [↓R0, RA, simprocAttr, h8, h2]
      exact ⟨hT2, .inr ⟨i, hil, by first | trivial | rfl, h2, hne⟩⟩
    · simp -dsimp (disch := ((try simp only [sz_sl, ByteArray.size_append]); omega)) only [↓R0, RA, simprocAttr, h2, h8, w64]
      refine ⟨i + 1, by omega, (by first | trivial | (simp -dsimp only [R1, simprocAttr, h0]; done) | rfl), (by first | trivial | (simp -dsimp only [R1, simprocAttr, h1]; done) | rfl), (by first | trivial | (simp -dsimp only [R1, simprocAttr, h7]; done) | rfl), (by first | trivial | (simp -dsimp only [R1, simprocAttr]; done) | rfl), by omega, hT2, fun e he => ?_⟩
      rw [List.take_succ_eq_append_getElem hil] at he
      rcases List.mem_append.1 he with he | he
      · exact hne e he
      · simp only [List.mem_singleton] at he
        subst he; exact h2
  · simp -dsimp only [↓R0, RA, simprocAttr, hc]
    refine ⟨hT, .inl ⟨by first | trivial | rfl, fun e he => hne e ?_⟩⟩
    rw [List.take_of_length_le (by omega)]; exact he
theorem wr_mid : ∀ (ds cs : List D) (o : Nat), o + ds.length ≤ cs.length → wr cs o ds = cs.take o ++ ds ++ cs.drop (o + ds.length)
  | [], cs, o, h => by simp [wr]
  | d :: ds, cs, o, h => by
    simp only [List.length_cons] at h
    rw [wr, wr_mid ds (cs.set o d) (o + 1) (by simp; omega)]
    have h1 : (cs.set o d).take (o + 1) = cs.take o ++ [d] := by
      rw [List.take_succ_eq_append_getElem (by simp; omega)]
      simp only [List.take_set, List.getElem_set_self]
      rw [List.set_eq_of_length_le (by rw [List.length_take]; omega)]
    have h2 : (cs.set o d).drop (o + 1 + ds.length) = cs.drop (o + (d :: ds).length) := by
      rw [List.drop_set]
      rw [if_pos (by omega)]
      congr 1
      simp only [List.length_cons]; omega
    rw [h1, h2]
    simp
theorem rowsE_wr {i : Nat} {e : Ent} (h : i < l.length) : wr (rowsE l) (i * 2) e.row = rowsE (l.set i e) := by
  have h2 : e.row.length = 2 := rfl
  rw [wr_mid _ _ _ (by rw [rowsE_length, h2]; omega), h2, rowsE_takeN, show i * 2 + 2 = (i + 1) * 2 by omega, rowsE_dropN, List.set_eq_take_append_cons_drop, if_pos h, rowsE_append, rowsE_cons]
  simp [Ent.row]
theorem zer2_rep (k : Nat) : rep [.str ⟨#[]⟩, .int .i64 0] k = zer2 k := by
  induction k with
  | zero => rfl
  | succ k ih => rw [rep, ih]; rfl
theorem zer2_len (k : Nat) : (zer2 k).length = k * 2 := by
  induction k with
  | zero => rfl
  | succ k ih => simp only [zer2, List.length_cons, ih]; omega
theorem el36 : el TP 36 = some (71, 2, 24) := by kernel_rfl
theorem ze71 : zero TP 71 = some [.str ⟨#[]⟩, .int .i64 0] := by kernel_rfl
theorem clear_ent {i : Nat} (hb : st[0]? = some (.cells v true 71 (rowsE l))) (hi : i ≤ l.length) :
    clearD TP st 36 (.osl 0 v 2 (i * 2) (l.length - i)) = some (.undef, st.set 0 (.cells v true 71 (rowsE (l.take i) ++ zer2 (l.length - i)))) := by
  have hl : (rowsE l).length = l.length * 2 := rowsE_length
  have h2 : i * 2 + (l.length - i) * 2 ≤ (rowsE l).length := by omega
  simp only [clearD, el36, ze71, hb, List.length_cons, List.length_nil, Nat.reduceAdd, if_true, and_self, true_and, h2, zer2_rep]
  rw [wr_mid _ _ _ (by rw [zer2_len]; exact h2), rowsE_takeN, zer2_len, List.drop_of_length_le (by omega)]
  simp
theorem remE_succ {j : Nat} (h : j < l.length) : remE (l.take (j + 1)) nm = remE (l.take j) nm ++ if l[j].name = nm then [] else [l[j]] := by
  rw [List.take_succ_eq_append_getElem h]
  simp only [remE, List.filter_append]
  congr 1
  by_cases h1 : l[j].name = nm
  · simp [h1]
  · simp [h1]
theorem remE_all (h : ∀ e ∈ l, e.name ≠ nm) : remE l nm = l := by
  simp only [remE]
  exact List.filter_eq_self.2 fun e he => decide_eq_true (h e he)
theorem r145 (hn : l.length < 1000000) : BodyW C2 TP 145 [.osl 0 v 2 0 l.length, .fn 146 [.ptr 1 xv 0]] [.cells v true 71 (rowsE l), .cells xv rw ty [.int .i64 x, .str nm, .int .i64 y]] fun d st' =>
    d = .osl 0 v 2 0 (remE l nm).length ∧ st'[0]? = some (.cells v true 71 (rowsE (remE l nm) ++ zer2 (l.length - (remE l nm).length))) ∧ st'[1]? = some (.cells xv rw ty [.int .i64 x, .str nm, .int .i64 y]) := by
  refine (body_h b145 (by show 2 ≤ 42; decide) ?_)
  have hb0 : ([.cells v true 71 (rowsE l), .cells xv rw ty [.int .i64 x, .str nm, .int .i64 y]] : Store)[0]? = some (.cells v true 71 (rowsE l)) := rfl
  have hb1 : ([.cells v true 71 (rowsE l), .cells xv rw ty [.int .i64 x, .str nm, .int .i64 y]] : Store)[1]? = some (.cells xv rw ty [.int .i64 x, .str nm, .int .i64 y]) := rfl
  generalize ([.cells v true 71 (rowsE l), .cells xv rw ty [.int .i64 x, .str nm, .int .i64 y]] : Store) = st at *
  simp -dsimp only [↓R0, RA, simprocAttr, RQ]
  refine hCall_c (e166 hb0 hb1 hn) ?_
  rintro _ st1 ⟨hT, ⟨rfl, hne⟩ | ⟨k, hk, rfl, hke, hne⟩⟩
  · simp -dsimp only [↓R0, RA, simprocAttr]
    rw [remE_all hne]
    exact ⟨rfl, by rw [hT.1, hb0]; simp [zer2], by rw [hT.2, hb1]⟩
  have hk1 : ¬ ((k : Int) = -1) := by omega
  have hwk : IntKind.i64.wrap ((k : Int) + 1) = ((k + 1 : Nat) : Int) := by rw [w64] <;> omega
  simp -dsimp only [↓R0, RA, simprocAttr, hk1, decide_eq_false hk1, hwk]
  have hrk : remE (l.take (k + 1)) nm = l.take k := by
    rw [remE_succ hk, if_pos hke, List.append_nil, remE_all hne]
  refine hLoop_i (fun j : Nat => l.length - j) (fun j fr' st' => fr' 0 = .osl 0 v 2 0 l.length ∧ fr' 1 = .fn 146 [.ptr 1 xv 0] ∧ fr' 5 = .int .i64 (remE (l.take j) nm).length ∧ fr' 6 = .int .i64 j ∧ j ≤ l.length ∧ (remE (l.take j) nm).length < j ∧
    ∃ L : List Ent, L.length = l.length ∧ st'[0]? = some (.cells v true 71 (rowsE L)) ∧ st'[1]? = some (.cells xv rw ty [.int .i64 x, .str nm, .int .i64 y]) ∧ L.take (remE (l.take j) nm).length = remE (l.take j) nm ∧ L.drop j = l.drop j) (k + 1)
    ⟨rfl, rfl, by rw [hrk, List.length_take, Nat.min_eq_left (by omega)]; rfl, rfl, hk, by rw [hrk, List.length_take]; omega, l, rfl, by rw [hT.1, hb0], by rw [hT.2, hb1], by rw [hrk, List.length_take, Nat.min_eq_left (by omega)], rfl⟩ ?_
  rintro j fr st2 ⟨h0, h1, h5, h6, hj, hij, L, hL, k0, k1, hLi, hLj⟩
  simp -dsimp only [↓R0, RA, simprocAttr, h0, h6]
  apply hIf_d <;> intro hc
  · have hjl : j < l.length := by omega
    have hjL : j < L.length := by omega
    have a1 : (0 : Int) ≤ j := by omega
    have a2 : (j : Int) < (l.length : Nat) := by omega
    have hle : (j * 2 + 2 ≤ (rowsE L).length) = True := by rw [rowsE_length]; simp; omega
    have hLe : L[j] = l[j] := by
      have e1 := List.drop_eq_getElem_cons hjL
      have e2 := List.drop_eq_getElem_cons hjl
      rw [hLj, e2] at e1
      injection e1 with e1
      exact e1.symm
    have hwj : IntKind.i64.wrap ((j : Int) + 1) = ((j + 1 : Nat) : Int) := by rw [w64] <;> omega
    have hwi : IntKind.i64.wrap (((remE (l.take j) nm).length : Int) + 1) = (((remE (l.take j) nm).length + 1 : Nat) : Int) := by rw [w64] <;> omega
    simp -dsimp only [↓R0, RA, simprocAttr, RQ, hc, h0, h1, h5, h6, osl_ix a1 a2, Int.toNat_natCast, k0, hle, row_at hjL, hLe, Ent.row, wr]
    refine hCall_c (e146 (e := l[j]) (get_app k1)) ?_
    rintro _ st3 ⟨rfl, rfl⟩
    simp -dsimp only [↓R0, RA, simprocAttr, un]
    have g0 : (st2 ++ [Blk.cells 0 true 71 [D.str l[j].name, D.int IntKind.i64 l[j].ino]] ++ [Blk.cells 0 true 71 l[j].row])[0]? = some (.cells v true 71 (rowsE L)) := get_app (get_app k0)
    have g1 : (st2 ++ [Blk.cells 0 true 71 [D.str l[j].name, D.int IntKind.i64 l[j].ino]] ++ [Blk.cells 0 true 71 l[j].row])[1]? = some (.cells xv rw ty [.int .i64 x, .str nm, .int .i64 y]) := get_app (get_app k1)
    have g2 : (st2 ++ [Blk.cells 0 true 71 [D.str l[j].name, D.int IntKind.i64 l[j].ino]] ++ [Blk.cells 0 true 71 l[j].row])[st2.length]? = some (.cells 0 true 71 l[j].row) := by rw [List.append_assoc, app_get0]; rfl
    generalize st2 ++ [Blk.cells 0 true 71 [D.str l[j].name, D.int IntKind.i64 l[j].ino]] ++ [Blk.cells 0 true 71 l[j].row] = st4 at *
    apply hIf_d <;> intro h2'
    · have hs : remE (l.take (j + 1)) nm = remE (l.take j) nm := by rw [remE_succ hjl, if_pos h2', List.append_nil]
      simp -dsimp only [↓R0, RA, simprocAttr, h0, h1, h5, h6, hwj]
      refine ⟨j + 1, by omega, (by first | trivial | (simp -dsimp only [R1, simprocAttr, h0]; done) | rfl), (by first | trivial | (simp -dsimp only [R1, simprocAttr, h1]; done) | rfl), ?_, (by first | trivial | (simp -dsimp only [R1, simprocAttr]; done) | rfl), hjl, by rw [hs]; omega, L, hL, g0, g1, by rw [hs]; exact hLi, by rw [← List.drop_drop, ← List.drop_drop, hLj]⟩
      rw [hs]
    · have hs : remE (l.take (j + 1)) nm = remE (l.take j) nm ++ [l[j]] := by rw [remE_succ hjl, if_neg h2']
      have hiL : (remE (l.take j) nm).length < L.length := by omega
      have b1 : (0 : Int) ≤ (remE (l.take j) nm).length := by omega
      have b2 : ((remE (l.take j) nm).length : Int) < (l.length : Nat) := by omega
      have hle2 : ((remE (l.take j) nm).length * 2 + 2 ≤ (rowsE L).length) = True := by rw [rowsE_length]; simp; omega
      have hw := rowsE_wr (e := l[j]) hiL
      simp only [Ent.row, wr] at hw
      simp -dsimp only [↓R0, RA, simprocAttr, h0, h1, h5, h6, hwj, hwi, g2, osl_ix b1 b2, Int.toNat_natCast, g0, hle2, Ent.row, hw]
      refine ⟨j + 1, by omega, (by first | trivial | (simp -dsimp only [R1, simprocAttr, h0]; done) | rfl), (by first | trivial | (simp -dsimp only [R1, simprocAttr, h1]; done) | rfl), ?_, (by first | trivial | (simp -dsimp only [R1, simprocAttr]; done) | rfl), hjl, by rw [hs, List.length_append, List.length_singleton]; omega, L.set (remE (l.take j) nm).length l[j], by simp [hL], get_set_eq g0, by rw [get_set_ne (by decide)]; exact g1, ?_, ?_⟩
      · rw [hs, List.length_append, List.length_singleton]
      · rw [hs, List.length_append, List.length_singleton, List.take_succ_eq_append_getElem (by simpa using hiL), List.take_set_of_le (Nat.le_refl _), hLi]
        simp
      · rw [List.drop_set_of_lt (by omega), ← List.drop_drop, ← List.drop_drop, hLj]
  · have hjn : j = l.length := by omega
    subst hjn
    rw [List.take_length] at *
    generalize remE l nm = F at *
    have hF : F.length ≤ L.length := by omega
    have b1 : (0 : Int) ≤ F.length := by omega
    have b2 : (F.length : Int) ≤ (l.length : Nat) := by omega
    have hcl := clear_ent k0 hF
    rw [hL, hLi] at hcl
    have hsl : sliceL 2 (.osl 0 v 2 0 l.length) (some (.int .i64 F.length)) none = some (.osl 0 v 2 (F.length * 2) (l.length - F.length)) := by
      simp only [sliceL, bound, b1, b2, and_self, if_true, Int.toNat_natCast]
      simp
    have hs2 : sliceL 2 (.osl 0 v 2 0 l.length) none (some (.int .i64 F.length)) = some (.osl 0 v 2 0 F.length) := by
      simp only [sliceL, bound, b1, b2, and_self, if_true, Int.toNat_natCast]
      simp
    have hbd : builtinD TP st2 .clear [36] [.osl 0 v 2 (F.length * 2) (l.length - F.length)] = some (.undef, st2.set 0 (.cells v true 71 (rowsE F ++ zer2 (l.length - F.length)))) := hcl
    simp -dsimp only [↓R0, RA, simprocAttr, hc, h0, h5, hsl, hs2, hbd]
    exact ⟨trivial, get_set_eq k0, by rw [get_set_ne (by decide)]; exact k1⟩
theorem dropN_ents : ∀ {cs r : List D}, dropN nm cs = some r → ∃ l : List Ent, cs = rowsE l ∧ r = rowsE (remE l nm)
  | [], r, h => by simp only [dropN] at h; injection h with h; subst h; exact ⟨[], rfl, rfl⟩
  | [c], r, h => by unfold dropN at h; split at h <;> first | (cases h; done) | skip <;> simp_all
  | c :: c' :: cs, r, h => by
    unfold dropN at h
    split at h
    · simp_all
    · rename_i a b l' heq
      injection heq with e1 heq
      injection heq with e2 e3
      subst e1; subst e2; subst e3
      split at h
      · rename_i r' hr
        obtain ⟨l, rfl, rfl⟩ := dropN_ents hr
        injection h with h
        subst h
        refine ⟨⟨a, b⟩ :: l, rfl, ?_⟩
        simp only [toL_inj, decide_eq_true_eq, remE, List.filter_cons]
        by_cases h1 : a = nm
        · simp [h1]
        · simp [h1, rowsE_cons]
      · cases h
    · cases h
def C3 : Cfg where
  mode _ := .thread
  ro _ := false
  ext _ := none
  fp _ := none
  fpOk _ _ _ h := by cases h
theorem nil166 {d f : D} (hd : d = .nils ∨ d = .zsl) : Does1 C3 TP 166 [d, f] st (.int .i64 (-1)) st := by
  refine does_of (call_th rfl rfl (body_h b166 (by show 2 ≤ 19; decide) ?_))
  have hl : lnV (some d) st = some (.int .i64 0, st) := by rcases hd with rfl | rfl <;> rfl
  simp -dsimp only [↓R0, RA, simprocAttr, hl]
  refine hLoop_i (fun i : Nat => 0) (fun i fr' st' => fr' 7 = .int .i64 0 ∧ fr' 8 = .int .i64 0 ∧ st' = st) 0 ⟨rfl, rfl, rfl⟩ ?_
  rintro i fr st1 ⟨h7, h8, rfl⟩
  simp -dsimp only [↓R0, RA, simprocAttr, h7, h8]
theorem nil145 {d f : D} (hd : d = .nils ∨ d = .zsl) : Does1 C3 TP 145 [d, f] st d st := by
  refine does_of (call_th rfl rfl (body_h b145 (by show 2 ≤ 42; decide) ?_))
  simp -dsimp only [↓R0, RA, simprocAttr, hCall_d (nil166 (f := f) hd)]
theorem y145 {args : List D} {st st' : Store} {d : D} (h : x145 args st = some (d, st')) : Does1 C2 TP 145 args st d st' ∨ Does1 C3 TP 145 args st d st' := by
  unfold x145 at h
  split at h
  · injection h with h; injection h with e1 e2; subst e1; subst e2
    exact .inr (nil145 (.inl rfl))
  · injection h with h; injection h with e1 e2; subst e1; subst e2
    exact .inr (nil145 (.inr rfl))
  · rename_i id ver n xb xv
    split at h
    · cases h
    · rename_i hne
      split at h
      · rename_i v cs u rw ty p nm q hb hx
        split at h
        · rename_i hc
          obtain ⟨rfl, rfl, hcs, hn⟩ := hc
          split at h
          · rename_i r hr
            injection h with h; injection h with e1 e2; subst e1; subst e2
            obtain ⟨l, rfl, rfl⟩ := dropN_ents hr
            rw [rowsE_length] at hcs
            have hnl : n = l.length := by omega
            subst hnl
            have k0 : kids st id = [] := by unfold kids; rw [hb]; exact rowsE_refs
            have k1 : kids st xb = [] := by unfold kids; rw [hx]; simp [refsB, refsL, refs]
            have i0 : idxOf [id, xb] id = some 0 := by simp [idxOf, List.findIdx?_cons]
            have i1 : idxOf [id, xb] xb = some 1 := by
              have : (id == xb) = false := by simpa using hne
              simp [idxOf, List.findIdx?_cons, this]
            have hrd : ∀ (g : Nat → List Nat) (a b : Nat) (s : Store), kids s a = [] → kids s b = [] → ∀ k, reach s k [a, b] = [a, b] := by
              intro _ a b s h1 h2 k
              induction k with
              | zero => rfl
              | succ k ih =>
                unfold reach
                have : ([a, b] : List Nat).flatMap (kids s) = [] := by simp [h1, h2]
                rw [this]
                exact ih
            refine .inl (does_of (call_keep (m := [id, xb]) (args0 := [.osl 0 v 2 0 l.length, .fn 146 [.ptr 1 u 0]]) (st0 := [.cells v true 71 (rowsE l), .cells u rw ty [.int .i64 p, .str nm, .int .i64 q]]) rfl rfl ?_ ?_ ?_ (BodyW.mono (r145 hn) ?_)))
            · have e1 : addNew [] (refsL [D.osl id v 2 0 l.length, D.fn 146 [D.ptr xb u 0]]) = [id, xb] := by
                have : ¬ xb = id := fun e => hne e.symm
                simp [refsL, refs, addNew, this]
              rw [e1]
              exact hrd (fun _ => []) id xb st k0 k1 6
            · simp only [renL, ren, i0, i1]
            · have hro : C2.ro 145 = false := rfl
              rw [hro]
              simp only [take, hb, hx, renB, renL_any _ _ rowsE_refs, renL, ren, Bool.not_false, Bool.and_true]
            · rintro _ st1 ⟨rfl, h1, h2⟩
              have hz : refsL (rowsE (remE l nm) ++ zer2 (l.length - (remE l nm).length)) = [] := by rw [refsL_app, rowsE_refs, zer2_refs]; rfl
              have hk0 : kids st1 0 = [] := by unfold kids; rw [h1]; exact hz
              have hk1 : kids st1 1 = [] := by unfold kids; rw [h2]; simp [refsB, refsL, refs]
              have hF : (rowsE (remE l nm)).length / 2 = (remE l nm).length := by rw [rowsE_length]; omega
              have hset : (st.set id (.cells v true 71 (rowsE (remE l nm) ++ zer2 (l.length - (remE l nm).length)))).set xb (.cells u rw ty [.int .i64 p, .str nm, .int .i64 q]) = st.set id (.cells v true 71 (rowsE (remE l nm) ++ zer2 (l.length - (remE l nm).length))) := by
                refine set_same ?_
                rw [get_set_ne (fun e => hne e.symm)]; exact hx
              have hfin : finish (C2.ro 145) st [id, xb] (.osl 0 v 2 0 (remE l nm).length) st1 = some (.osl id v 2 0 (remE l nm).length, st.set id (.cells v true 71 (rowsE (remE l nm) ++ zer2 (l.length - (remE l nm).length)))) := by
                have hro : C2.ro 145 = false := rfl
                rw [hro]
                unfold finish
                have e1 : (reach st1 6 (addNew (List.range ([id, xb] : List Nat).length) (refs (.osl 0 v 2 0 (remE l nm).length)))).drop ([id, xb] : List Nat).length = [] := by
                  have : addNew (List.range ([id, xb] : List Nat).length) (refs (.osl 0 v 2 0 (remE l nm).length)) = [0, 1] := by simp [refs, addNew, List.range_succ]
                  rw [this, hrd (fun _ => []) 0 1 st1 hk0 hk1]; rfl
                simp only [e1]
                generalize hbk : (fun i => if i < ([id, xb] : List Nat).length then ([id, xb] : List Nat)[i]? else (idxOf [] i).map (st.length + ·)) = back
                have hb0 : back 0 = some id := by rw [← hbk]; rfl
                simp [ren, hb0, take, h1, h2, renB, renL_any _ _ hz, renL, List.range_succ, putBack, hset]
              rw [hfin]
              simp only [wB, hF]
              exact ⟨trivial, trivial⟩
          · cases h
        · cases h
      · cases h
  · cases h
end
section
variable {st : Store} {id ver vid vver n : Nat} {a b : D} {cs : List D}
theorem nil110 {d : D} (hd : d = .nils) (hv : st[vid]? = some (.cells vver true 71 [a, b])) : Does1 C3 TP 110 [d, .int .i64 0, .osl vid vver 2 0 1] st (.osl st.length 0 2 0 1) (st ++ [.cells 0 true 71 [a, b]]) := by
  refine does_of (call_th rfl rfl (body_h b110 (by show 3 ≤ 95; decide) ?_))
  have hl : lnV (some d) st = some (.int .i64 0, st) := by subst hd; rfl
  have hs : ∃ d', sliceL 2 d (some (.int .i64 0)) none = some d' := by subst hd; exact ⟨_, rfl⟩
  obtain ⟨d', hs⟩ := hs
  have ha : appendM st 71 2 24 d (.osl vid vver 2 0 1) = some (.osl st.length 0 2 0 1, st ++ [.cells 0 true 71 [a, b]]) := by
    subst hd; simp [appendM, srcCells, cellsOf, lenOf, hv]
  have h10 : decide (((1 : Nat) : Int) = 0) = false := by decide
  simp -dsimp only [↓R0, RA, simprocAttr, hl, hs, ha, h10]
theorem end110 (hv : st[vid]? = some (.cells vver true 71 [a, b])) (hb : st[id]? = some (.cells ver true 71 cs)) (hn : n * 2 ≤ cs.length) (hn2 : n < 4096) :
    Does1 C3 TP 110 [.osl id ver 2 0 n, .int .i64 n, .osl vid vver 2 0 1] st (.osl id (ver + 1) 2 0 (n + 1)) (st.set id (.cells (ver + 1) true 71 (cs.take (n * 2) ++ [a, b]))) := by
  refine does_of (call_th rfl rfl (body_h b110 (by show 3 ≤ 95; decide) ?_))
  have hs : sliceL 2 (.osl id ver 2 0 n) (some (.int .i64 n)) none = some (.osl id ver 2 (n * 2) 0) := by
    have b1 : (0 : Int) ≤ n := by omega
    have b2 : (n : Int) ≤ (n : Nat) := by omega
    simp only [sliceL, bound, b1, b2, and_self, if_true, Int.toNat_natCast]
    simp
  have ha : appendM st 71 2 24 (.osl id ver 2 0 n) (.osl vid vver 2 0 1) = some (.osl id (ver + 1) 2 0 (n + 1), st.set id (.cells (ver + 1) true 71 (cs.take (n * 2) ++ [a, b]))) := by
    have h1 : (n + 1) * 24 ≤ 70368744177664 := by omega
    have h2 : n + 1 ≤ 70368744177664 := by omega
    simp [appendM, srcCells, cellsOf, lenOf, hv, hb, hn, h1, h2]
  have h10 : decide (((1 : Nat) : Int) = 0) = false := by decide
  simp -dsimp only [↓R0, RA, simprocAttr, hs, ha, h10]
end
end Go.Mm
end
