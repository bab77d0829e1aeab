/- A part of the proof of FilesFitCardSaid: S26, S27, S28, S29, S30. -/
import Derived.Test.YtamefnngdhbjiaaGreatDoorFitB0
set_option linter.all false
section
namespace Go.Mm
open Go.Proofs
variable [Globs]
set_option maxRecDepth 8000
open Go.Proofs.Tryz renaming prog → TP
section
def m60b (O : Array Oper) : MC :=
 (.seq (.reg [dq 146 3 16, dq 147 3 10, cq 148 105 [(tq 146), (tq 147)]])
 (.seq (.reg [fq 149 0 16, lq 150 149, lq 151 12, iq 152 6 150 151, fq 153 4 152, lq 154 153, cq 155 106 [(tq 154)], mq 18 155])
 (.seq (.reg [mq 157 18, mq 158 13, cq 159 107 [(tq 157), (tq 158), (.func 108)], mq 156 159, xq 160 156 0, xq 161 156 1, mq 19 160, mq 20 161])
 (.seq (.regX 26 O)
 (.seq (.seq (.reg [lq 175 14])
 (.cond (tq 175)
 (.reg [fq 176 0 16, lq 177 176, fq 178 2 10, lq 179 178, lq 180 12, iq 181 6 177 179, fq 182 5 181, sq 1 182 180])
 .skip))
 (.seq (.reg [dq 183 3 16, sq 3 8 183, kq 9 0])
 .ret))))))
def m60a (O : Array Oper) : MC :=
 (.seq (.seq (.reg [mq 71 11, oq 72 (.bin 0 .neq (tq 71) (nq 0))])
 (.cond (tq 72)
 (.seq (.reg [dq 73 3 4, mq 74 11, sq 3 8 73, mq 9 74])
 .ret)
 .skip))
 (.seq (.reg [dq 75 3 4, lq 76 12, mq 77 13, cq 78 104 [(tq 75), (tq 76), (tq 77)], mq 15 78])
 (.seq (.reg [dq 79 3 4, cq 80 73 [(tq 79)], oq 16 (.alc 24 [.nils, (.int .i64 0), (.int .i64 0)]), sq 3 16 80])
 (.seq (.block 0
 (.seq (.reg [mq 82 15, fq 83 2 10, lq 84 83, oq 85 (.bin 0 .eql (tq 82) (tq 84)), mq 81 85])
 (.cond (tq 81)
 (.seq (.reg [dq 86 3 4, sq 3 8 86, kq 9 0])
 .ret)
 (.seq (.reg [mq 88 15, oq 89 (.bin 0 .geq (tq 88) (nq 0)), mq 87 89])
 (.cond (tq 87)
 (.seq (.reg [dq 90 3 4, mq 91 15, cq 92 72 [(tq 90), (tq 91)], mq 17 92])
 (.seq (.reg [lq 93 14, mq 94 93, gq 95 94 (.mv (tq 17)), gq 96 94 (.un .not (tq 95)), oq 97 (.pick (tq 94) (tq 96) ff), cq 98 71 [(nq 20), (tq 97)], mq 99 17, mq 100 99, gq 101 100 (.ldo (tq 14)), gq 102 100 (.un .not (tq 101)), oq 103 (.pick (tq 100) (tq 102) ff), cq 104 71 [(nq 21), (tq 103)], mq 105 17, mq 106 105, gq 107 106 (.fa 0 (tq 4)), gq 108 106 (.ldo (tq 107)), gq 109 106 (.mv (tq 15)), gq 110 106 (.ias 6 (tq 108) (tq 109)), gq 111 106 (.fa 4 (tq 110)), gq 112 106 (.ldo (tq 111)), gq 113 106 (.lnS (tq 112)), gq 114 106 (.bin 0 .gtr (tq 113) (nq 0)), oq 115 (.pick (tq 106) (tq 114) ff), cq 116 71 [(nq 39), (tq 115)], mq 117 17, mq 118 117, gq 119 118 (.mv (tq 15)), gq 120 118 (.mv (tq 1)), gq 121 118 (.bin 0 .eql (tq 119) (tq 120)), oq 122 (.pick (tq 118) (tq 121) ff), cq 123 71 [(nq 22), (tq 122)], oq 124 (.bsl 108 1 [.nilf] 4 [(0, (tq 98)), (1, (tq 104)), (2, (tq 116)), (3, (tq 123))]), cq 125 70 [(tq 124)], mq 11 125])
 (.seq (.seq (.reg [mq 126 11, oq 127 (.bin 0 .neq (tq 126) (nq 0))])
 (.cond (tq 127)
 (.seq (.reg [dq 128 3 4, mq 129 11, sq 3 8 128, mq 9 129])
 .ret)
 .skip))
 (.reg [dq 130 3 16, lq 131 12, mq 132 13, mq 133 15, oq 134 (.bld [(.int .i64 0), (.str ⟨#[]⟩), (.int .i64 0)] [(0, (1, (tq 131))), (1, (1, (tq 132))), (2, (1, (tq 133)))]), cq 135 74 [(tq 130), (tq 134)]]))))
 (.seq (.reg [fq 137 0 4, lq 138 137, lq 139 12, iq 140 6 138 139, fq 141 4 140, lq 142 141, oq 143 (.lnS (tq 142)), oq 144 (.bin 0 .geq (tq 143) (nq 1024)), mq 136 144])
 (.cond (tq 136)
 (.seq (.reg [dq 145 3 4, sq 3 8 145, kq 9 28])
 .ret)
 .skip)))))))
 (m60b O)))))
theorem b60s : bodyM TP [8, 26] 60 = some (184, [(.cell 8 24), (.tmp 9)],
 (.seq (.reg [⟨(some 4), (.i (.box 24 (.tmp 0))), none⟩, ⟨(some 8), (.i (.alc 24 [.nils, (.int .i64 0), (.int .i64 0)])), none⟩, ⟨(some 9), (.i (.mv (.const (.int .i64 0)))), none⟩])
 (.seq (.reg [⟨(some 22), (.i (.lda 3 (.tmp 4))), none⟩, ⟨(some 23), (.i (.mv (.tmp 1))), none⟩, ⟨(some 24), (.i (.mv (.tmp 2))), none⟩, ⟨(some 25), (.call (.func 69) [(.tmp 22), (.tmp 23), (.tmp 24)]), none⟩, ⟨(some 21), (.i (.mv (.tmp 25))), none⟩, ⟨(some 26), (.i (.ext (.tmp 21) 0)), none⟩, ⟨(some 27), (.i (.ext (.tmp 21) 1)), none⟩, ⟨(some 10), (.i (.alc 104 [(.int .i64 0), (.str ⟨#[]⟩), (.int .i64 0)])), none⟩, ⟨none, (.i (.sto 3 (.tmp 10) (.tmp 26))), none⟩, ⟨(some 11), (.i (.mv (.tmp 27))), none⟩])
 (.seq (.seq (.reg [⟨(some 28), (.i (.mv (.tmp 11))), none⟩, ⟨(some 29), (.i (.bin 0 .neq (.tmp 28) (.const (.int .i64 0)))), none⟩])
 (.cond (.tmp 29)
 (.seq (.reg [⟨(some 30), (.i (.lda 3 (.tmp 4))), none⟩, ⟨(some 31), (.i (.mv (.tmp 11))), none⟩, ⟨none, (.i (.sto 3 (.tmp 8) (.tmp 30))), none⟩, ⟨(some 9), (.i (.mv (.tmp 31))), none⟩])
 .ret)
 .skip))
 (.seq (.reg [⟨(some 33), (.i (.lda 3 (.tmp 4))), none⟩, ⟨(some 34), (.i (.mv (.tmp 1))), none⟩, ⟨(some 35), (.i (.mv (.tmp 3))), none⟩, ⟨(some 36), (.call (.func 99) [(.tmp 33), (.tmp 34), (.tmp 35)]), none⟩, ⟨(some 32), (.i (.mv (.tmp 36))), none⟩, ⟨(some 37), (.i (.ext (.tmp 32) 0)), none⟩, ⟨(some 38), (.i (.ext (.tmp 32) 1)), none⟩, ⟨(some 39), (.i (.ext (.tmp 32) 2)), none⟩, ⟨(some 12), (.i (.alc 3 [(.int .i64 0)])), none⟩, ⟨none, (.i (.sto 1 (.tmp 12) (.tmp 37))), none⟩, ⟨(some 13), (.i (.mv (.tmp 38))), none⟩, ⟨(some 11), (.i (.mv (.tmp 39))), none⟩])
 (.seq (.seq (.reg [⟨(some 40), (.i (.mv (.tmp 11))), none⟩, ⟨(some 41), (.i (.bin 0 .neq (.tmp 40) (.const (.int .i64 0)))), none⟩])
 (.cond (.tmp 41)
 (.seq (.reg [⟨(some 42), (.i (.lda 3 (.tmp 4))), none⟩, ⟨(some 43), (.i (.mv (.tmp 11))), none⟩, ⟨none, (.i (.sto 3 (.tmp 8) (.tmp 42))), none⟩, ⟨(some 9), (.i (.mv (.tmp 43))), none⟩])
 .ret)
 .skip))
 (.seq (.reg [⟨(some 44), (.i (.lda 3 (.tmp 4))), none⟩, ⟨(some 45), (.i (.fa 2 (.tmp 10))), none⟩, ⟨(some 46), (.i (.ldo (.tmp 45))), none⟩, ⟨(some 47), (.call (.func 72) [(.tmp 44), (.tmp 46)]), none⟩, ⟨(some 14), (.i (.alc 4 [(.bool false)])), none⟩, ⟨none, (.i (.sto 1 (.tmp 14) (.tmp 47))), none⟩])
 (.seq (.regX 8 (opsAt (cOf TP 60) [1, 1, 1, 1, 1, 1, 0]))
 (m60a (opsAt (cOf TP 60) [1, 1, 1, 1, 1, 1, 1, 1, 1, 1, 1, 1, 1, 1, 0])))))))))) := by kernel_rfl
theorem EntS.ne {st : Store} {d : D} {l : List Ent} {id ver : Nat} {rw : Bool} {cs : List D} (h : EntS st d l) (hb : st[id]? = some (.cells ver rw 38 cs)) : idD d ≠ some id := by
  rcases h with (⟨rfl, _⟩ | ⟨rfl, _⟩ | rfl) | ⟨id', ver', rw', tl, rfl, hb', _⟩
  · simp [idD]
  · simp [idD]
  · simp [idD]
  · intro e
    simp only [idD, Option.some.injEq] at e
    subst e
    rw [hb'] at hb
    injection hb with hb
    injection hb with _ _ hb
    cases hb
theorem EntS.lt {st : Store} {d : D} {l : List Ent} {i : Nat} (h : EntS st d l) (hi : idD d = some i) : i < st.length := by
  rcases h with (⟨rfl, _⟩ | ⟨rfl, _⟩ | rfl) | ⟨id', ver', rw', tl, rfl, hb', _⟩
  · simp [idD] at hi
  · simp [idD] at hi
  · simp [idD] at hi
  · simp only [idD, Option.some.injEq] at hi
    subst hi
    exact get_lt hb'
def Ino.wup (x : Ino) (v : Int) : Ino := { x with up := v }
def setU (ns : List Ino) (k : Nat) (v : Int) : List Ino := ns.set k ((ns.getD k .free).wup v)
def renN (ns : List Ino) (d : Nat) (kd1 : D) (to : Nat) (kd2 : D) (is : Bool) (k : Nat) : List Ino :=
  if is then setU (setK (setK ns d kd1) to kd2) k to else setK (setK ns d kd1) to kd2
theorem w60b {st : Store} {id ver u k d to n : Nat} {ns : List Ino} {mx mb : Int} {nm last : ByteArray} {is : Bool} {ld lt : List Ent} {fr : Fr} {Q : D → Store → Prop}
    (h8 : fr 8 = .ptr 1 0 0) (h10 : fr 10 = .ptr 2 0 0) (h12 : fr 12 = .ptr 3 0 0) (h13 : fr 13 = .str last) (h14 : fr 14 = .ptr 4 0 0) (h16 : fr 16 = .ptr u 0 0)
    (c1 : st[1]? = some (.cells 0 true 24 [.nils, .int .i64 0, .int .i64 0])) (c2 : st[2]? = some (.cells 0 true 104 [.int .i64 d, .str nm, .int .i64 k])) (c3 : st[3]? = some (.cells 0 true 3 [.int .i64 to])) (c4 : st[4]? = some (.cells 0 true 4 [.bool is]))
    (cu : st[u]? = some (.cells 0 true 24 [.osl id ver 6 0 n, .int .i64 mx, .int .i64 mb])) (hb : st[id]? = some (.cells ver true 38 (rowsI ns))) (hu : 4 < u) (h4 : 4 < id)
    (hn : n = ns.length) (hd : d < ns.length) (ht : to < ns.length) (hk : k < ns.length) (hE : EntS st ns[d].kd ld) (hl : ld.length < 1025) (hlt : to = d → lt = remE ld nm) (hE2 : to ≠ d → EntS st ns[to].kd lt) (hs : Sorted lt) (hl2 : lt.length < 1025)
    (hQ : ∀ kd1 kd2 i st', i ≤ lt.length → (∀ j (h : j < lt.length), j < i → sLt lt[j].name last = true) → (∀ j (h : j < lt.length), i ≤ j → sLt lt[j].name last = false) →
      st'[id]? = some (.cells ver true 38 (rowsI (renN ns d kd1 to kd2 is k))) → (to ≠ d → EntS st' kd1 (remE ld nm)) → EntS st' kd2 (insE lt i ⟨last, k⟩) → (∀ j, j < st.length → j ≠ id → j ≠ 1 → st'[j]? = st[j]?) →
      Q (.tup [.agg [.osl id ver 6 0 n, .int .i64 mx, .int .i64 mb], .int .i64 0]) st') :
    wpM C TP [8, 26] 60 184 (m60b (opsAt (cOf TP 60) [1, 1, 1, 1, 1, 1, 1, 1, 1, 1, 1, 1, 1, 1, 0])) fr st fun o fr st' => hEnd o (hRes (resOf TP fr st' [.cell 8 24, .tmp 9]) (fun d => Q d st') ⟨⟩) ⟨⟩ := by
  subst hn
  unfold m60b
  have hul := get_lt cu
  have hidl := get_lt hb
  have hne : u ≠ id := by
    rintro rfl
    rw [cu] at hb; injection hb with hb; injection hb with _ _ hb; cases hb
  simp -dsimp only [↓R0, RA, simprocAttr, h10, h16, c2, cu, ld24, ld104]
  refine hCall_c (d105 (mx := mx) (mb := mb) (nm := nm) (k := k) hb hd hE hl) ?_
  rintro _ st1 ⟨kd1, q1, q2, q3, q4, q5⟩
  have g1 := (q4 1 (by omega) (by omega)).trans c1
  have g2 := (q4 2 (by omega) (by omega)).trans c2
  have g3 := (q4 3 (by omega) (by omega)).trans c3
  have g4 := (q4 4 (by omega) (by omega)).trans c4
  have gu := (q4 u hul hne).trans cu
  have a1 : (0 : Int) ≤ to := by omega
  have a2 : (to : Int) < (ns.length : Nat) := by omega
  have ht' : to < (setK ns d kd1).length := by rw [setK_len]; exact ht
  have r4 : (rowsI (setK ns d kd1))[to * 6 + 4]? = some (setK ns d kd1)[to].kd := rowsI_get (List.getElem?_eq_getElem ht') 4 (by omega)
  have hEt : EntS st1 (setK ns d kd1)[to].kd lt := by
    rw [getO ht' (setK_get ht)]
    by_cases e : to = d
    · rw [if_pos e, hlt e]; exact q2
    · rw [if_neg e]
      refine (hE2 e).mono fun i hi => q4 i ((hE2 e).lt hi) ?_
      rintro rfl
      exact (hE2 e).ne hb hi
  simp -dsimp only [↓R0, RA, simprocAttr, h12, h16, g3, gu, osl_ix a1 a2, Int.toNat_natCast, q1, r4]
  have b1 : (0 : Int) ≤ k := by omega
  have b2 : (k : Int) < (ns.length : Nat) := by omega
  have s4b : ∀ v, (rowsI (setK ns d kd1)).set (to * 6 + 4) v = rowsI (setK (setK ns d kd1) to v) := fun v => rowsI_set _ to 4 v _ ht' (by omega) rfl
  have l4b : (to * 6 + 4 + 1 ≤ (rowsI (setK ns d kd1)).length) = True := by rw [rowsI_length, setK_len]; simp; omega
  have s5b : ∀ v w, (rowsI (setK (setK ns d kd1) to v)).set (k * 6 + 5) (.int .i64 w) = rowsI (setU (setK (setK ns d kd1) to v) k w) := fun v w => rowsI_set _ k 5 _ _ (by rw [setK_len, setK_len]; exact hk) (by omega) rfl
  have l5b : ∀ v, (k * 6 + 5 + 1 ≤ (rowsI (setK (setK ns d kd1) to v)).length) = True := fun v => by rw [rowsI_length, setK_len, setK_len]; simp; omega
  refine hCall_c (d106 hEt (by omega)) ?_
  rintro r st2 (⟨hnil, rfl, h12'⟩ | ⟨ver2, rfl, rfl⟩)
  · rw [h12']; clear h12'
    subst hnil
    obtain ⟨i, i1, i2, i3, i4⟩ := s107 (st := st1) (nm := last) s108 hs (.inl (.inl ⟨rfl, rfl, rfl⟩)) (by simp)
    have hi0 : i = 0 := by simpa using i1
    subst hi0
    simp -dsimp only [↓R0, RA, simprocAttr, h12, h13, h16, hCall_d i4]
    refine regX_h x60_26 c60_26 ?_
    have hv : (st1 ++ [Blk.cells 0 true 71 [.str last, .int .i64 k]])[st1.length]? = some (.cells 0 true 71 (Ent.row ⟨last, k⟩)) := by rw [app_get0]; rfl
    have e0 : ((0 : Nat) : Int) = 0 := rfl
    simp -dsimp only [↓R0, RA, simprocAttr, RQ, ↓R5, R6, h10, h12, h13, h16, get_app g2, get_app g3, get_app gu, e0, g2, g3, gu, hCall_d (d110n hv)]
    simp -dsimp only [↓R0, RA, simprocAttr, RQ, ↓R5, R6, osl_ix a1 a2, Int.toNat_natCast, get_app q1, s4b, l4b]
    refine ⟨?_, ?_⟩
    · simp only [fp110n, fp110, h12, h16, fl_p]
      have hul1 : u < st1.length := get_lt gu
      have hul3 : 3 < st1.length := get_lt g3
      try simp [fpOk]
      try omega
    · have fin : ∀ (st' : Store), (∀ j, j < st.length → j ≠ id → j ≠ 1 → st'[j]? = st1[j]?) → st'[id]? = some (.cells ver true 38 (rowsI (renN ns d kd1 to (.osl (st1.length + 1) 0 2 0 1) is k))) → (∀ j, (idD kd1 = some j ∨ j = st1.length + 1) → st'[j]? = (st1 ++ [Blk.cells 0 true 71 [.str last, .int .i64 k], .cells 0 true 71 (rowsE [⟨last, k⟩])])[j]?) →
          Q (.tup [.agg [.osl id ver 6 0 ns.length, .int .i64 mx, .int .i64 mb], .int .i64 0]) st' := by
        intro st' f1 f2 f3
        refine hQ kd1 (.osl (st1.length + 1) 0 2 0 1) 0 st' ?_ ?_ ?_ f2 (fun _ => q2.mono fun j hj => ?_) ?_ ?_
        · first | exact i1 | exact Nat.le_refl _
        · first | exact i2 | (intro j h; simp at h)
        · first | exact i3 | (intro j h; simp at h)
        · rw [f3 j (.inl hj), List.getElem?_append_left (q2.lt hj)]
        · exact .inr ⟨st1.length + 1, 0, true, [], rfl, by rw [f3 _ (.inr rfl), app_get, List.append_nil]; rfl, rfl⟩
        · intro j h1 h2 h3
          rw [f1 j h1 h2 h3, q4 j h1 h2]
      have e1 : ∀ l b, ((st1 ++ l).set id b)[1]? = some (.cells 0 true 24 [.nils, .int .i64 0, .int .i64 0]) := fun l b => by rw [get_set_ne (by omega)]; exact get_app g1
      have e2 : ∀ l b, ((st1 ++ l).set id b)[2]? = some (.cells 0 true 104 [.int .i64 d, .str nm, .int .i64 k]) := fun l b => by rw [get_set_ne (by omega)]; exact get_app g2
      have e3 : ∀ l b, ((st1 ++ l).set id b)[3]? = some (.cells 0 true 3 [.int .i64 to]) := fun l b => by rw [get_set_ne (by omega)]; exact get_app g3
      have e4 : ∀ l b, ((st1 ++ l).set id b)[4]? = some (.cells 0 true 4 [.bool is]) := fun l b => by rw [get_set_ne (by omega)]; exact get_app g4
      have eu : ∀ l b, ((st1 ++ l).set id b)[u]? = some (.cells 0 true 24 [.osl id ver 6 0 ns.length, .int .i64 mx, .int .i64 mb]) := fun l b => by rw [get_set_ne hne]; exact get_app gu
      have ei : ∀ l b, ((st1 ++ l).set id b)[id]? = some b := fun l b => get_set_eq (get_app q1)
      have es : ∀ l b b', (((st1 ++ l).set id b).set 1 b')[1]? = some b' := fun l b b' => get_set_eq (e1 l b)
      have hl1 := get_lt q1
      simp -dsimp only [↓R0, RA, simprocAttr, h14, e4]
      refine hIf_b (fun his => ?_) (fun his => ?_)
      · simp -dsimp only [↓R0, RA, simprocAttr, his, h8, h10, h12, h16, e1, e2, e3, eu, ei, osl_ix b1 b2, Int.toNat_natCast, List.set_set, s5b, l5b, es, ld24]
        refine fin _ ?_ ?_ ?_
        · intro j f1 f2 f3
          rw [get_set_ne f3, get_set_ne f2, List.getElem?_append_left (by omega)]
        · rw [get_set_ne (by omega), ei]
          unfold renN
          rw [if_pos his]
        · intro j hj
          have : st.length ≤ j := by
            rcases hj with hj | hj
            · exact q3 j hj
            · omega
          rw [get_set_ne (by omega), get_set_ne (by omega)]
      · simp -dsimp only [↓R0, RA, simprocAttr, his, h8, h10, h12, h16, e1, e2, e3, eu, ei, es, ld24]
        refine fin _ ?_ ?_ ?_
        · intro j f1 f2 f3
          rw [get_set_ne f3, get_set_ne f2, List.getElem?_append_left (by omega)]
        · rw [get_set_ne (by omega), ei]
          unfold renN
          rw [if_neg (by simp [his])]
        · intro j hj
          have : st.length ≤ j := by
            rcases hj with hj | hj
            · exact q3 j hj
            · omega
          rw [get_set_ne (by omega), get_set_ne (by omega)]
  · have hE3 : EntS (st1 ++ [.cells ver2 true 71 (rowsE lt)]) (.osl st1.length ver2 2 0 lt.length) lt := .inr ⟨st1.length, ver2, true, [], rfl, by rw [app_get0, List.append_nil]; rfl, rfl⟩
    obtain ⟨i, i1, i2, i3, i4⟩ := s107 (nm := last) s108 hs hE3 (by omega)
    simp -dsimp only [↓R0, RA, simprocAttr, RQ, h12, h13, h16, hCall_d i4]
    refine regX_h x60_26 c60_26 ?_
    have hv : (st1 ++ [Blk.cells ver2 true 71 (rowsE lt), .cells 0 true 71 [.str last, .int .i64 k]])[st1.length + 1]? = some (.cells 0 true 71 (Ent.row ⟨last, k⟩)) := by rw [app_get]; rfl
    have hv1 : (st1 ++ [Blk.cells ver2 true 71 (rowsE lt), .cells 0 true 71 [.str last, .int .i64 k]])[st1.length]? = some (.cells ver2 true 71 (rowsE lt)) := by rw [app_get0]; rfl
    simp -dsimp only [↓R0, RA, simprocAttr, RQ, ↓R5, R6, h10, h12, h13, h16, get_app g2, get_app g3, get_app gu, hCall_d (d110 hv hv1 (by omega) i1 (by omega))]
    simp -dsimp only [↓R0, RA, simprocAttr, RQ, ↓R5, R6, osl_ix a1 a2, Int.toNat_natCast, get_app q1, s4b, l4b]
    refine ⟨?_, ?_⟩
    · simp only [fp110n, fp110, h12, h16, fl_p]
      have hul1 : u < st1.length := get_lt gu
      have hul3 : 3 < st1.length := get_lt g3
      try simp [fpOk]
      try omega
    · have fin : ∀ (st' : Store), (∀ j, j < st.length → j ≠ id → j ≠ 1 → st'[j]? = st1[j]?) → st'[id]? = some (.cells ver true 38 (rowsI (renN ns d kd1 to (.osl st1.length (ver2 + 1) 2 0 (lt.length + 1)) is k))) → (∀ j, (idD kd1 = some j ∨ j = st1.length) → st'[j]? = (st1 ++ [Blk.cells (ver2 + 1) true 71 (rowsE (insE lt i ⟨last, k⟩)), .cells 0 true 71 [.str last, .int .i64 k]])[j]?) →
          Q (.tup [.agg [.osl id ver 6 0 ns.length, .int .i64 mx, .int .i64 mb], .int .i64 0]) st' := by
        intro st' f1 f2 f3
        refine hQ kd1 (.osl st1.length (ver2 + 1) 2 0 (lt.length + 1)) i st' ?_ ?_ ?_ f2 (fun _ => q2.mono fun j hj => ?_) ?_ ?_
        · first | exact i1 | exact Nat.le_refl _
        · first | exact i2 | (intro j h; simp at h)
        · first | exact i3 | (intro j h; simp at h)
        · rw [f3 j (.inl hj), List.getElem?_append_left (q2.lt hj)]
        · exact .inr ⟨st1.length, ver2 + 1, true, [], (by rw [insE, List.length_append, List.length_cons, List.length_take, List.length_drop]; congr 1; omega), by rw [f3 _ (.inr rfl), app_get0, List.append_nil]; rfl, rfl⟩
        · intro j h1 h2 h3
          rw [f1 j h1 h2 h3, q4 j h1 h2]
      have e1 : ∀ l b, ((st1 ++ l).set id b)[1]? = some (.cells 0 true 24 [.nils, .int .i64 0, .int .i64 0]) := fun l b => by rw [get_set_ne (by omega)]; exact get_app g1
      have e2 : ∀ l b, ((st1 ++ l).set id b)[2]? = some (.cells 0 true 104 [.int .i64 d, .str nm, .int .i64 k]) := fun l b => by rw [get_set_ne (by omega)]; exact get_app g2
      have e3 : ∀ l b, ((st1 ++ l).set id b)[3]? = some (.cells 0 true 3 [.int .i64 to]) := fun l b => by rw [get_set_ne (by omega)]; exact get_app g3
      have e4 : ∀ l b, ((st1 ++ l).set id b)[4]? = some (.cells 0 true 4 [.bool is]) := fun l b => by rw [get_set_ne (by omega)]; exact get_app g4
      have eu : ∀ l b, ((st1 ++ l).set id b)[u]? = some (.cells 0 true 24 [.osl id ver 6 0 ns.length, .int .i64 mx, .int .i64 mb]) := fun l b => by rw [get_set_ne hne]; exact get_app gu
      have ei : ∀ l b, ((st1 ++ l).set id b)[id]? = some b := fun l b => get_set_eq (get_app q1)
      have es : ∀ l b b', (((st1 ++ l).set id b).set 1 b')[1]? = some b' := fun l b b' => get_set_eq (e1 l b)
      have hl1 := get_lt q1
      simp -dsimp only [↓R0, RA, simprocAttr, h14, e4]
      refine hIf_b (fun his => ?_) (fun his => ?_)
      · simp -dsimp only [↓R0, RA, simprocAttr, his, h8, h10, h12, h16, e1, e2, e3, eu, ei, osl_ix b1 b2, Int.toNat_natCast, List.set_set, s5b, l5b, es, ld24]
        refine fin _ ?_ ?_ ?_
        · intro j f1 f2 f3
          rw [get_set_ne f3, get_set_ne f2, List.getElem?_append_left (by omega)]
        · rw [get_set_ne (by omega), ei]
          unfold renN
          rw [if_pos his]
        · intro j hj
          have : st.length ≤ j := by
            rcases hj with hj | hj
            · exact q3 j hj
            · omega
          rw [get_set_ne (by omega), get_set_ne (by omega)]
      · simp -dsimp only [↓R0, RA, simprocAttr, his, h8, h10, h12, h16, e1, e2, e3, eu, ei, es, ld24]
        refine fin _ ?_ ?_ ?_
        · intro j f1 f2 f3
          rw [get_set_ne f3, get_set_ne f2, List.getElem?_append_left (by omega)]
        · rw [get_set_ne (by omega), ei]
          unfold renN
          rw [if_neg (by simp [his])]
        · intro j hj
          have : st.length ≤ j := by
            rcases hj with hj | hj
            · exact q3 j hj
            · omega
          rw [get_set_ne (by omega), get_set_ne (by omega)]
end
section
theorem setU_get {ns : List Ino} {k j : Nat} {w : Int} (hj : j < ns.length) : (setU ns k w)[j]? = some (if j = k then ns[j].wup w else ns[j]) := by
  unfold setU
  rw [List.getElem?_set]
  by_cases e : k = j
  · subst e; rw [if_pos rfl, if_pos hj, if_pos rfl, getD_at hj]
  · rw [if_neg e, if_neg (show ¬ j = k from fun x => e x.symm), List.getElem?_eq_getElem hj]
theorem setU_len {ns : List Ino} {d : Nat} {v : Int} : (setU ns d v).length = ns.length := by simp [setU]
theorem renN_len {ns : List Ino} {d to k : Nat} {kd1 kd2 : D} {is : Bool} : (renN ns d kd1 to kd2 is k).length = ns.length := by
  unfold renN
  split
  · rw [setU_len, setK_len, setK_len]
  · rw [setK_len, setK_len]
theorem renN_get {ns : List Ino} {d to k j : Nat} {kd1 kd2 : D} {is : Bool} (hj : j < ns.length) :
    (renN ns d kd1 to kd2 is k)[j]'(by rw [renN_len]; exact hj) = { ns[j] with kd := if j = to then kd2 else if j = d then kd1 else ns[j].kd, up := if is = true ∧ j = k then (to : Int) else ns[j].up } := by
  apply getO
  have h1 : j < (setK ns d kd1).length := by rw [setK_len]; exact hj
  have h2 : j < (setK (setK ns d kd1) to kd2).length := by rw [setK_len]; exact h1
  have e1 : (setK (setK ns d kd1) to kd2)[j]? = some { ns[j] with kd := if j = to then kd2 else if j = d then kd1 else ns[j].kd } := by
    rw [setK_get h1, getO h1 (setK_get hj)]
    by_cases q : j = to
    · rw [if_pos q, if_pos q]
      by_cases q2 : j = d
      · rw [if_pos q2]; rfl
      · rw [if_neg q2]; rfl
    · rw [if_neg q, if_neg q]
      by_cases q2 : j = d
      · rw [if_pos q2, if_pos q2]; rfl
      · rw [if_neg q2, if_neg q2]
  unfold renN
  cases is with
  | false => simp only [Bool.false_eq_true, if_false, false_and]; rw [e1]
  | true =>
    simp only [if_true, true_and]
    rw [setU_get h2, getO h2 e1]
    by_cases q : j = k
    · rw [if_pos q, if_pos q]; rfl
    · rw [if_neg q, if_neg q]
theorem ren_frz {st : Store} {id ver d to k : Nat} {ns : List Ino} {mx mb : Int} {kd1 kd2 : D} {is : Bool} {n : Nat} {l1 l2 : List Ent} {L0 : Nat → List Ent} (hblk : st[id]? = some (.cells ver true 38 (rowsI (renN ns d kd1 to kd2 is k)))) (hn : ns.length ≤ 256)
    (h1 : to ≠ d → EntS st kd1 l1) (h2 : EntS st kd2 l2) (hE : ∀ j (h : j < ns.length), j ≠ to → j ≠ d → EntS st ns[j].kd (L0 j)) :
    ∃ t' : Tr, fz st (n + 4) (.agg [.osl id ver 6 0 ns.length, .int .i64 mx, .int .i64 mb]) = some t'.d ∧ t'.Ok ∧ t'.nodes.length = ns.length ∧ t'.mx = mx ∧ t'.mb = mb ∧
      ∀ (j : Nat) (h : j < ns.length), (t'.at (j : Int)).v = ⟨ns[j].kind, ns[j].mode, ns[j].links, ns[j].data, if j = to then l2 else if j = d then l1 else L0 j, if is = true ∧ j = k then (to : Int) else ns[j].up⟩ := by
  obtain ⟨t', f1, f2, f3, f4, f5, f6⟩ := nodes_frz (n := n) (mx := mx) (mb := mb) (L := fun j => if j = to then l2 else if j = d then l1 else L0 j) hblk (by rw [renN_len]; exact hn) (by
    intro j hj0
    have hj : j < ns.length := by rw [renN_len] at hj0; exact hj0
    rw [renN_get hj]
    simp only []
    by_cases q1 : j = to
    · rw [if_pos q1, if_pos q1]; exact h2
    · rw [if_neg q1, if_neg q1]
      by_cases q2 : j = d
      · rw [if_pos q2, if_pos q2]; exact h1 (fun e => q1 (q2.trans e.symm))
      · rw [if_neg q2, if_neg q2]; exact hE j hj q1 q2)
  rw [renN_len] at f1 f3
  refine ⟨t', f1, f2, f3, f4, f5, ?_⟩
  intro j hj
  rw [f6 j (by rw [renN_len]; exact hj), renN_get hj]
structure Moved (t t' : Tr) (d k : Nat) (nm : ByteArray) (to : Nat) (last : ByteArray) (th : Int) : Prop where
  like : Like t t'
  ex : ∃ i lt, lt = (if to = d then remE (remE (t.at (to : Int)).kids last) nm else remE (t.at (to : Int)).kids last) ∧ i ≤ lt.length ∧ (∀ j (h : j < lt.length), j < i → sLt lt[j].name last = true) ∧ (∀ j (h : j < lt.length), i ≤ j → sLt lt[j].name last = false) ∧
    ∀ j : Nat, j < t.nodes.length → (t'.at (j : Int)).v =
      if (j : Int) = th then (if (t.at (j : Int)).links = 1 then Ino.free.v else { (t.at (j : Int)).v with links := (t.at (j : Int)).links - 1 }) else
      { (t.at (j : Int)).v with kids := if j = to then insE lt i ⟨last, k⟩ else if j = d then remE (t.at (d : Int)).kids nm else (t.at (j : Int)).kids, up := if (t.at (k : Int)).kind = 2 ∧ j = k then (to : Int) else (t.at (j : Int)).up }
theorem remE_none {l : List Ent} {nm : ByteArray} (h : ∀ e ∈ l, e.name ≠ nm) : remE l nm = l := by
  unfold remE
  rw [List.filter_eq_self]
  intro e he
  simpa using h e he
theorem Sorted.rem {l : List Ent} (h : Sorted l) {nm : ByteArray} : Sorted (remE l nm) := by
  unfold Sorted remE
  exact List.Pairwise.filter _ h
theorem remE_le {l : List Ent} {nm : ByteArray} : (remE l nm).length ≤ l.length := List.length_filter_le _ _
theorem ren_fin {t : Tr} (hT : T t) {st : Store} {id ver d to k : Nat} {ns : List Ino} {kd1 kd2 : D} {is : Bool} {n : Nat} {l1 l2 : List Ent} {B : Nat → View} (hblk : st[id]? = some (.cells ver true 38 (rowsI (renN ns d kd1 to kd2 is k)))) (hn : ns.length = t.nodes.length)
    (h1 : to ≠ d → EntS st kd1 l1) (h2 : EntS st kd2 l2) (hB : ∀ j (h : j < ns.length), ns[j].kind = (B j).kind ∧ ns[j].mode = (B j).mode ∧ ns[j].links = (B j).links ∧ ns[j].data = (B j).data ∧ ns[j].up = (B j).up ∧ (j ≠ to → j ≠ d → EntS st ns[j].kd (B j).kids)) :
    ∃ t' : Tr, fz st (n + 5) (.tup [.agg [.osl id ver 6 0 ns.length, .int .i64 t.mx, .int .i64 t.mb], .int .i64 0]) = some (.tup [t'.d, .int .i64 0]) ∧ Like t t' ∧
      ∀ (j : Nat), j < t.nodes.length → (t'.at (j : Int)).v = { B j with kids := if j = to then l2 else if j = d then l1 else (B j).kids, up := if is = true ∧ j = k then (to : Int) else (B j).up } := by
  obtain ⟨t', f1, f2, f3, f4, f5, f6⟩ := ren_frz (n := n) (mx := t.mx) (mb := t.mb) (L0 := fun j => (B j).kids) hblk (by rw [hn]; exact hT.n) h1 h2 (fun j h a b => (hB j h).2.2.2.2.2 a b)
  refine ⟨t', ?_, ⟨f2, f3.trans hn, f4, f5⟩, ?_⟩
  · unfold fz
    have e1 : ∀ (a : IntKind) (b : Int), fz st (n + 4) (.int a b) = some (.int a b) := fun a b => fz_0 (by simp only [refs])
    simp only [refs, refsL, List.append_nil, List.isEmpty_cons, Bool.false_eq_true, if_false, mapO, f1, e1]
  · intro j hj
    have hj' : j < ns.length := by omega
    obtain ⟨b1, b2, b3, b4, b5, _⟩ := hB j hj'
    rw [f6 j hj', b1, b2, b3, b4, b5]
def baseV (t : Tr) (th : Int) (j : Nat) : View :=
  if (j : Int) = th then (if (t.at (j : Int)).links = 1 then Ino.free.v else { (t.at (j : Int)).v with links := (t.at (j : Int)).links - 1 }) else (t.at (j : Int)).v
theorem Moved.of {t t' : Tr} {d k to i : Nat} {nm last : ByteArray} {th : Int} {lt l1 : List Ent} (hl : Like t t') (h0 : lt = (if to = d then remE (remE (t.at (to : Int)).kids last) nm else remE (t.at (to : Int)).kids last)) (h1 : i ≤ lt.length) (h2 : ∀ j (h : j < lt.length), j < i → sLt lt[j].name last = true) (h3 : ∀ j (h : j < lt.length), i ≤ j → sLt lt[j].name last = false)
    (hl1 : to ≠ d → l1 = remE (t.at (d : Int)).kids nm) (hth : th ≠ to ∧ th ≠ d ∧ th ≠ k)
    (hv : ∀ (j : Nat), j < t.nodes.length → (t'.at (j : Int)).v = { baseV t th j with kids := if j = to then insE lt i ⟨last, k⟩ else if j = d then l1 else (baseV t th j).kids, up := if decide ((t.at (k : Int)).kind = 2) = true ∧ j = k then (to : Int) else (baseV t th j).up }) :
    Moved t t' d k nm to last th := by
  refine ⟨hl, i, lt, h0, h1, h2, h3, ?_⟩
  intro j hj
  rw [hv j hj]
  unfold baseV
  by_cases q : (j : Int) = th
  · have q1 : j ≠ to := by rintro rfl; exact hth.1 q.symm
    have q2 : j ≠ d := by rintro rfl; exact hth.2.1 q.symm
    have q3 : j ≠ k := by rintro rfl; exact hth.2.2 q.symm
    simp only [if_pos q, if_neg q1, if_neg q2, q3, and_false, if_false]
  · simp only [if_neg q, decide_eq_true_eq]
    by_cases q1 : j = to
    · simp only [if_pos q1]
      rfl
    · simp only [if_neg q1]
      by_cases q2 : j = d
      · simp only [if_pos q2]
        rw [hl1 (fun e => q1 (q2.trans e.symm))]
        rfl
      · simp only [if_neg q2]
        rfl
def RenD (t : Tr) (cwd : Int) (d k : Nat) (nm : ByteArray) (to : Nat) (last : ByteArray) (d' : D) : Prop :=
  (∃ e : Int, e ≠ 0 ∧ d' = .tup [t.d, .int .i64 e]) ∨ (d' = .tup [t.d, .int .i64 0] ∧ t.kid (to : Int) last = k) ∨
  ∃ t', d' = .tup [t'.d, .int .i64 0] ∧ t.kid (to : Int) last ≠ k ∧ (t.kid (to : Int) last = -1 → (t.at (to : Int)).kids.length < 1024) ∧
    (0 ≤ t.kid (to : Int) last → ((t.at (k : Int)).kind = 2 ↔ (t.at (t.kid (to : Int) last)).kind = 2) ∧ ((t.at (t.kid (to : Int) last)).kind = 2 → (t.at (t.kid (to : Int) last)).kids = [] ∧ t.kid (to : Int) last ≠ cwd)) ∧
    Moved t t' d k nm to last (t.kid (to : Int) last)
end
section
theorem T.kid_mem {t : Tr} (hT : T t) {d k : Nat} {nm : ByteArray} (h : t.kid (d : Int) nm = k) : t.dir (d : Int) ∧ ∃ e ∈ (t.at (d : Int)).kids, e.name = nm ∧ e.ino = k := by
  unfold Tr.kid at h
  split at h
  · rename_i hd
    rcases kidL_cases (t.at (d : Int)).kids nm with ⟨g1, _⟩ | ⟨e, g1, g2, g3⟩
    · omega
    · exact ⟨hd, e, g1, g2, by omega⟩
  · omega
theorem T.kid_ne {t : Tr} (hT : T t) {d : Nat} {nm : ByteArray} (h : t.kid (d : Int) nm = d) : False := by
  obtain ⟨hd, e, he, _, hi⟩ := hT.kid_mem h
  obtain ⟨h0, hup⟩ := (hT.fit.dirs _ hd).2.2.dir e he (by rw [hi]; exact hd.2)
  rw [hi] at h0 hup
  have : ∀ n, rootN t n (d : Int) = false := by
    intro n
    induction n with
    | zero => rfl
    | succ n ih =>
      unfold rootN
      rw [if_neg h0, hup, if_pos hd]
      exact ih
  have hr := hT.fit.rooted _ hd
  rw [this] at hr
  cases hr
theorem w60a {t : Tr} (hT : T t) {cwd e : Int} {d k to : Nat} {nm last : ByteArray} {st : Store} {fr : Fr}
    (h1 : fr 1 = .int .i64 cwd) (h4 : fr 4 = .ptr 0 0 0) (h8 : fr 8 = .ptr 1 0 0) (h10 : fr 10 = .ptr 2 0 0) (h11 : fr 11 = .int .i64 e) (h12 : fr 12 = .ptr 3 0 0) (h13 : fr 13 = .str last) (h14 : fr 14 = .ptr 4 0 0)
    (c0 : st[0]? = some (.cells 0 true 24 t.c)) (c1 : st[1]? = some (.cells 0 true 24 [.nils, .int .i64 0, .int .i64 0])) (c2 : st[2]? = some (.cells 0 true 104 [.int .i64 d, .str nm, .int .i64 k])) (c3 : st[3]? = some (.cells 0 true 3 [.int .i64 to])) (c4 : st[4]? = some (.cells 0 true 4 [.bool (decide ((t.at (k : Int)).kind = 2))]))
    (hd : t.dir (d : Int)) (hto : t.dir (to : Int)) (hk : t.live (k : Int)) (hkid : t.kid (d : Int) nm = k) (hent : ∃ e ∈ (t.at (d : Int)).kids, e.name = nm ∧ e.ino = k) (hkd : k ≠ d) (hkt : e = 0 → k ≠ to)
    {Q : D → Store → Prop} (hfin : ∀ d0 st', (∃ d', fz st' 8 d0 = some d' ∧ (RenD t cwd d k nm to last d' ∧ (e ≠ 0 → d' = .tup [t.d, .int .i64 e]))) → Q d0 st') :
    wpM C TP [8, 26] 60 184 (m60a (opsAt (cOf TP 60) [1, 1, 1, 1, 1, 1, 1, 1, 1, 1, 1, 1, 1, 1, 0])) fr st fun o fr st' => hEnd o (hRes (resOf TP fr st' [.cell 8 24, .tmp 9]) (fun d0 => Q d0 st') ⟨⟩) ⟨⟩ := by
  unfold m60a
  have hdl : d < t.nodes.length := by have := hd.1.2; unfold Tr.n at this; omega
  have htl : to < t.nodes.length := by have := hto.1.2; unfold Tr.n at this; omega
  have hkl : k < t.nodes.length := by have := hk.1.2; unfold Tr.n at this; omega
  have hl4 := get_lt c4
  have bad : ∀ (e' : Int) (st : Store), e' ≠ 0 → (e ≠ 0 → e' = e) → ∃ d', fz st 8 (.tup [t.d, .int .i64 e']) = some d' ∧ (RenD t cwd d k nm to last d' ∧ (e ≠ 0 → d' = .tup [t.d, .int .i64 e])) :=
    fun e' st he h => ⟨_, fz_0 (by simp only [refs, refsL, hT.ok.ref, List.append_nil]), .inl ⟨e', he, rfl⟩, fun h' => by rw [h h']⟩
  have hs1 : ∀ l b, ((st ++ l).set 1 b)[1]? = some b := fun l b => get_set_eq (get_app c1)
  simp -dsimp only [↓R0, RA, simprocAttr, h11]
  apply hIf_d <;> intro he
  · obtain ⟨gg, hgg, hown⟩ := d73 hT (st := st)
    obtain ⟨ga, gb, rfl⟩ : ∃ a b, gg = [a, b] := by
      rcases gg with _ | ⟨a, _ | ⟨b, _ | ⟨c, g⟩⟩⟩ <;> simp at hgg
      exact ⟨a, b, rfl⟩
    simp only [List.append_assoc, List.cons_append, List.nil_append] at hown
    simp -dsimp only [↓R0, RA, simprocAttr, RQ, decide_eq_true he, h4, h8, h10, h12, h13, c0, c3, hCall_g (s104 hT), hCall_d hown, Tr.od, get_app c2]
    apply hIf_d <;> intro hth0
    · simp -dsimp only [↓R0, RA, simprocAttr, RQ, h4, h8, get_app c0, get_app c1, hs1, ld24]
      exact hfin _ _ ⟨_, fz_0 (by simp only [refs, refsL, hT.ok.ref, List.append_nil]), .inr (.inl ⟨rfl, hth0⟩), fun h => absurd he h⟩
    · simp -dsimp only [↓R0, RA, simprocAttr, RQ]
      apply hIf_d <;> intro hth1
      · obtain ⟨th, hthe⟩ : ∃ n : Nat, t.kid (to : Int) last = n := ⟨(t.kid (to : Int) last).toNat, by omega⟩
        have hth : t.live (th : Int) := by
          rcases hT.kid_cases (to : Int) last with h | h
          · omega
          · rw [← hthe]; exact h.2.1
        simp -dsimp only [↓R0, RA, simprocAttr, RQ, h4, get_app c0, hthe, hCall_g (s72 hT.ok hth.1), h14, get_app c4]
        have hthl : th < t.nodes.length := by have := hth.1.2; unfold Tr.n at this; omega
        have hthto : th ≠ to := by
          rintro rfl
          exact hT.kid_ne hthe
        rw [hthe] at hth0
        by_cases hwas : (t.at (th : Int)).kind = 2
        · apply hIf_d <;> intro his
          · simp -dsimp only [↓R0, RA, simprocAttr, RQ, decide_eq_true his, decide_eq_true hwas, hthe, h4, h12, h13, h14, get_app c0, get_app c4, h1, hCall_d d71, un, Tr.ixh hT.ok hth.1, Tr.c4 hth.1, (hT.kds hth.1).lnV]
            refine hCall_c (d70c (es := [if false then 20 else 0, if false then 21 else 0, if decide (0 < ((t.at (th : Int)).kids.length : Int)) then 39 else 0, if decide ((th : Int) = cwd) then 22 else 0]) (ver := 0) (rw := true) (fs := [.fn 124 [.ptr (st.length + 4) 0 0, .ptr (st.length + 5) 0 0], .fn 124 [.ptr (st.length + 6) 0 0, .ptr (st.length + 7) 0 0], .fn 124 [.ptr (st.length + 8) 0 0, .ptr (st.length + 9) 0 0], .fn 124 [.ptr (st.length + 10) 0 0, .ptr (st.length + 11) 0 0]]) ?_ rfl rfl (by simp) ?_) ?_
            · rw [app_get]; rfl
            · intro i hi
              match i, hi with
              | 0, _ => exact Tells.so (b := false) (e := 20) (by rw [app_get]; rfl) (by rw [app_get]; rfl)
              | 1, _ => exact Tells.so (b := false) (e := 21) (by rw [app_get]; rfl) (by rw [app_get]; rfl)
              | 2, _ => exact Tells.so (b := decide (0 < ((t.at (th : Int)).kids.length : Int))) (e := 39) (by rw [app_get]; rfl) (by rw [app_get]; rfl)
              | 3, _ => exact Tells.so (b := decide ((th : Int) = cwd)) (e := 22) (by rw [app_get]; rfl) (by rw [app_get]; rfl)
            · rintro _ st3 ⟨g3, rfl, hg3⟩
              simp only [List.append_assoc, List.cons_append, List.nil_append] at hg3
              have hfe : firstE [if false then 20 else 0, if false then 21 else 0, if decide (0 < ((t.at (th : Int)).kids.length : Int)) then 39 else 0, if decide ((th : Int) = cwd) then 22 else 0] = 0 → ((t.at (k : Int)).kind = 2 ↔ (t.at (th : Int)).kind = 2) ∧ ((t.at (th : Int)).kind = 2 → (t.at (th : Int)).kids = [] ∧ (th : Int) ≠ cwd) := by
                intro h
                have c1 := ite_z (by decide) (firstE_0.1 h _ (List.Mem.head _))
                have c2 := ite_z (by decide) (firstE_0.1 h _ (List.Mem.tail _ (List.Mem.head _)))
                have c3 := ite_z (by decide) (firstE_0.1 h _ (List.Mem.tail _ (List.Mem.tail _ (List.Mem.head _))))
                have c4 := ite_z (by decide) (firstE_0.1 h _ (List.Mem.tail _ (List.Mem.tail _ (List.Mem.tail _ (List.Mem.head _)))))
                (simp only [decide_eq_false_iff_not] at c3 c4; exact ⟨⟨fun _ => hwas, fun _ => his⟩, fun _ => ⟨List.eq_nil_of_length_eq_zero (by omega), c4⟩⟩)
              generalize firstE [if false then 20 else 0, if false then 21 else 0, if decide (0 < ((t.at (th : Int)).kids.length : Int)) then 39 else 0, if decide ((th : Int) = cwd) then 22 else 0] = fe at *
              have p0 : st3[0]? = some (.cells 0 true 24 t.c) := by rw [hg3]; exact get_app c0
              have p1 : st3[1]? = some (.cells 0 true 24 [.nils, .int .i64 0, .int .i64 0]) := by rw [hg3]; exact get_app c1
              have p2 : st3[2]? = some (.cells 0 true 104 [.int .i64 d, .str nm, .int .i64 k]) := by rw [hg3]; exact get_app c2
              have p3 : st3[3]? = some (.cells 0 true 3 [.int .i64 to]) := by rw [hg3]; exact get_app c3
              have p4 : st3[4]? = some (.cells 0 true 4 [.bool (decide ((t.at (k : Int)).kind = 2))]) := by rw [hg3]; exact get_app c4
              have pi : st3[st.length + 2]? = some (.cells 1 true 38 (rowsI t.nodes)) := by rw [hg3, app_get]; rfl
              have pu : st3[st.length + 3]? = some (.cells 0 true 24 [.osl (st.length + 2) 1 6 0 t.nodes.length, .int .i64 t.mx, .int .i64 t.mb]) := by rw [hg3, app_get]; rfl
              have ps : ∀ b, (st3.set 1 b)[1]? = some b := fun b => get_set_eq p1
              simp -dsimp only [↓R0, RA, simprocAttr]
              apply hIf_d <;> intro hf0
              · obtain ⟨hw1, hw2⟩ := hfe hf0
                simp -dsimp only [↓R0, RA, simprocAttr, decide_eq_true hf0, h4, h12, h13, p3, pu, ld24, hthe]
                refine hCall_c (d74 (st := st3) (id := st.length + 2) (ver := 1) (dd := to) (k := th) (ns := t.nodes) (mx := t.mx) (mb := t.mb) (nm := last) (l := (t.at (to : Int)).kids) pi htl hthl (by rw [← at_nat htl]; exact .inl (hT.kds hto.1)) (by have := hT.kids_le hto.1; omega) (by rw [← at_nat hthl]; exact hT.links_le hth.1)) ?_
                rintro _ st4 ⟨kd, q1, q2, q3, q4, q5⟩
                have hl3 := get_lt pu
                simp -dsimp only [↓R0, RA, simprocAttr]
                have hthd : th ≠ d := by
                  rintro rfl
                  rw [(hw2 hd.2).1] at hent
                  obtain ⟨e, he, _⟩ := hent
                  cases he
                have hget : ∀ j (hj : j < t.nodes.length), (goneN t.nodes to kd th)[j]'(by rw [goneN_len]; exact hj) = _ := fun j hj => goneN_get htl hthl hj hthto
                have hlk : lnk t.nodes th = (t.at (th : Int)).links := by unfold lnk; rw [getD_at hthl, at_nat hthl]
                refine w60b (fr := _) (st := st4) (id := st.length + 2) (ver := 1) (u := st.length + 3) (k := k) (d := d) (to := to) (ns := goneN t.nodes to kd th) (mx := t.mx) (mb := t.mb) (nm := nm) (last := last) (is := decide ((t.at (k : Int)).kind = 2))
                  (ld := if to = d then remE (t.at (to : Int)).kids last else (t.at (d : Int)).kids) (lt := if to = d then remE (remE (t.at (to : Int)).kids last) nm else remE (t.at (to : Int)).kids last)
                  (by first | trivial | (simp -dsimp only [R1, simprocAttr, h8]; done) | rfl) (by first | trivial | (simp -dsimp only [R1, simprocAttr, h10]; done) | rfl) (by first | trivial | (simp -dsimp only [R1, simprocAttr, h12]; done) | rfl) (by first | trivial | (simp -dsimp only [R1, simprocAttr, h13]; done) | rfl) (by first | trivial | (simp -dsimp only [R1, simprocAttr, h14]; done) | rfl) (by first | trivial | (simp -dsimp only [R1, simprocAttr]; done) | rfl) ((q4 1 (by omega) (by omega)).trans p1) ((q4 2 (by omega) (by omega)).trans p2) ((q4 3 (by omega) (by omega)).trans p3) ((q4 4 (by omega) (by omega)).trans p4) ((q4 _ hl3 (by omega)).trans pu) q1 (by omega) (by omega) goneN_len.symm (by rw [goneN_len]; exact hdl) (by rw [goneN_len]; exact htl) (by rw [goneN_len]; exact hkl) ?_ ?_ ?_ ?_ ?_ ?_ ?_
                · rw [hget d hdl, if_neg (fun e => hthd e.symm)]
                  by_cases e : d = to
                  · subst e; simp only [if_true]; exact q2
                  · rw [if_neg e, if_neg (fun x => e x.symm), ← at_nat hdl]; exact .inl (hT.kds hd.1)
                · have h1 := hT.kids_le hd.1
                  have h2 := hT.kids_le hto.1
                  have h3 := remE_le (l := (t.at (to : Int)).kids) (nm := last)
                  split <;> omega
                · intro e; rw [if_pos e, if_pos e]
                · intro e
                  rw [hget to htl, if_neg (fun e => hthto e.symm), if_pos rfl, if_neg e]; exact q2
                · have hso := (hT.fit.dirs _ hto).2.2.sorted
                  split
                  · exact hso.rem.rem
                  · exact hso.rem
                · have h2 := hT.kids_le hto.1
                  have h3 := remE_le (l := (t.at (to : Int)).kids) (nm := last)
                  have h4 := remE_le (l := remE (t.at (to : Int)).kids last) (nm := nm)
                  split <;> omega
                · intro kd1 kd2 i st' i1 i2 i3 r1 r2 r3 r4
                  obtain ⟨t', f1, f2, f3⟩ := ren_fin hT (n := 3) (B := baseV t th) (l1 := remE (if to = d then remE (t.at (to : Int)).kids last else (t.at (d : Int)).kids) nm) r1 goneN_len r2 r3 (by
                    intro j hj0
                    have hj : j < t.nodes.length := by rw [goneN_len] at hj0; exact hj0
                    rw [hget j hj, hlk]
                    unfold baseV
                    by_cases e : j = th
                    · subst e
                      simp only [if_true]
                      by_cases e2 : (t.at (j : Int)).links = 1
                      · rw [if_pos (by omega), if_pos e2]
                        exact ⟨rfl, rfl, rfl, rfl, rfl, fun _ _ => .inl (.inl ⟨rfl, rfl, rfl⟩)⟩
                      · rw [if_neg (by omega), if_neg e2, ← at_nat hj]
                        exact ⟨rfl, rfl, rfl, rfl, rfl, fun _ _ => .inl (hT.kds (has_nat hj))⟩
                    · rw [if_neg e, if_neg (show ¬ (j : Int) = (th : Int) by omega)]
                      by_cases e2 : j = to
                      · rw [if_pos e2, ← at_nat hj]
                        exact ⟨rfl, rfl, rfl, rfl, rfl, fun a _ => absurd e2 a⟩
                      · rw [if_neg e2, ← at_nat hj]
                        exact ⟨rfl, rfl, rfl, rfl, rfl, fun _ _ => .inl (hT.kds (has_nat hj))⟩)
                  rw [goneN_len] at f1
                  refine hfin _ _ ⟨_, f1, .inr (.inr ⟨t', rfl, by rw [hthe]; exact hth0, fun h => by omega, fun _ => ?_, ?_⟩), fun h => absurd he h⟩
                  · rw [hthe]
                    exact ⟨by rw [← hw1], hw2⟩
                  · rw [hthe]
                    exact Moved.of f2 rfl i1 i2 i3 (fun e => by rw [if_neg e]) ⟨by omega, by omega, hth0⟩ f3
              · simp -dsimp only [↓R0, RA, simprocAttr, hf0, h4, h8, p0, p1, ps, ld24]
                exact hfin _ _ <| bad _ _ hf0 (fun h => absurd he h)
          · simp -dsimp only [↓R0, RA, simprocAttr, RQ, decide_eq_false his, decide_eq_true hwas, hthe, h4, h12, h13, h14, get_app c0, get_app c4, h1, hCall_d d71, un, Tr.ixh hT.ok hth.1, Tr.c4 hth.1, (hT.kds hth.1).lnV]
            refine hCall_c (d70c (es := [if false then 20 else 0, if true then 21 else 0, if decide (0 < ((t.at (th : Int)).kids.length : Int)) then 39 else 0, if decide ((th : Int) = cwd) then 22 else 0]) (ver := 0) (rw := true) (fs := [.fn 124 [.ptr (st.length + 4) 0 0, .ptr (st.length + 5) 0 0], .fn 124 [.ptr (st.length + 6) 0 0, .ptr (st.length + 7) 0 0], .fn 124 [.ptr (st.length + 8) 0 0, .ptr (st.length + 9) 0 0], .fn 124 [.ptr (st.length + 10) 0 0, .ptr (st.length + 11) 0 0]]) ?_ rfl rfl (by simp) ?_) ?_
            · rw [app_get]; rfl
            · intro i hi
              match i, hi with
              | 0, _ => exact Tells.so (b := false) (e := 20) (by rw [app_get]; rfl) (by rw [app_get]; rfl)
              | 1, _ => exact Tells.so (b := true) (e := 21) (by rw [app_get]; rfl) (by rw [app_get]; rfl)
              | 2, _ => exact Tells.so (b := decide (0 < ((t.at (th : Int)).kids.length : Int))) (e := 39) (by rw [app_get]; rfl) (by rw [app_get]; rfl)
              | 3, _ => exact Tells.so (b := decide ((th : Int) = cwd)) (e := 22) (by rw [app_get]; rfl) (by rw [app_get]; rfl)
            · rintro _ st3 ⟨g3, rfl, hg3⟩
              simp only [List.append_assoc, List.cons_append, List.nil_append] at hg3
              have hfe : firstE [if false then 20 else 0, if true then 21 else 0, if decide (0 < ((t.at (th : Int)).kids.length : Int)) then 39 else 0, if decide ((th : Int) = cwd) then 22 else 0] = 0 → ((t.at (k : Int)).kind = 2 ↔ (t.at (th : Int)).kind = 2) ∧ ((t.at (th : Int)).kind = 2 → (t.at (th : Int)).kids = [] ∧ (th : Int) ≠ cwd) := by
                intro h
                have c1 := ite_z (by decide) (firstE_0.1 h _ (List.Mem.head _))
                have c2 := ite_z (by decide) (firstE_0.1 h _ (List.Mem.tail _ (List.Mem.head _)))
                have c3 := ite_z (by decide) (firstE_0.1 h _ (List.Mem.tail _ (List.Mem.tail _ (List.Mem.head _))))
                have c4 := ite_z (by decide) (firstE_0.1 h _ (List.Mem.tail _ (List.Mem.tail _ (List.Mem.tail _ (List.Mem.head _)))))
                cases c2
              generalize firstE [if false then 20 else 0, if true then 21 else 0, if decide (0 < ((t.at (th : Int)).kids.length : Int)) then 39 else 0, if decide ((th : Int) = cwd) then 22 else 0] = fe at *
              have p0 : st3[0]? = some (.cells 0 true 24 t.c) := by rw [hg3]; exact get_app c0
              have p1 : st3[1]? = some (.cells 0 true 24 [.nils, .int .i64 0, .int .i64 0]) := by rw [hg3]; exact get_app c1
              have p2 : st3[2]? = some (.cells 0 true 104 [.int .i64 d, .str nm, .int .i64 k]) := by rw [hg3]; exact get_app c2
              have p3 : st3[3]? = some (.cells 0 true 3 [.int .i64 to]) := by rw [hg3]; exact get_app c3
              have p4 : st3[4]? = some (.cells 0 true 4 [.bool (decide ((t.at (k : Int)).kind = 2))]) := by rw [hg3]; exact get_app c4
              have pi : st3[st.length + 2]? = some (.cells 1 true 38 (rowsI t.nodes)) := by rw [hg3, app_get]; rfl
              have pu : st3[st.length + 3]? = some (.cells 0 true 24 [.osl (st.length + 2) 1 6 0 t.nodes.length, .int .i64 t.mx, .int .i64 t.mb]) := by rw [hg3, app_get]; rfl
              have ps : ∀ b, (st3.set 1 b)[1]? = some b := fun b => get_set_eq p1
              simp -dsimp only [↓R0, RA, simprocAttr]
              apply hIf_d <;> intro hf0
              · obtain ⟨hw1, hw2⟩ := hfe hf0
                simp -dsimp only [↓R0, RA, simprocAttr, decide_eq_true hf0, h4, h12, h13, p3, pu, ld24, hthe]
                refine hCall_c (d74 (st := st3) (id := st.length + 2) (ver := 1) (dd := to) (k := th) (ns := t.nodes) (mx := t.mx) (mb := t.mb) (nm := last) (l := (t.at (to : Int)).kids) pi htl hthl (by rw [← at_nat htl]; exact .inl (hT.kds hto.1)) (by have := hT.kids_le hto.1; omega) (by rw [← at_nat hthl]; exact hT.links_le hth.1)) ?_
                rintro _ st4 ⟨kd, q1, q2, q3, q4, q5⟩
                have hl3 := get_lt pu
                simp -dsimp only [↓R0, RA, simprocAttr]
                have hthd : th ≠ d := by
                  rintro rfl
                  rw [(hw2 hd.2).1] at hent
                  obtain ⟨e, he, _⟩ := hent
                  cases he
                have hget : ∀ j (hj : j < t.nodes.length), (goneN t.nodes to kd th)[j]'(by rw [goneN_len]; exact hj) = _ := fun j hj => goneN_get htl hthl hj hthto
                have hlk : lnk t.nodes th = (t.at (th : Int)).links := by unfold lnk; rw [getD_at hthl, at_nat hthl]
                refine w60b (fr := _) (st := st4) (id := st.length + 2) (ver := 1) (u := st.length + 3) (k := k) (d := d) (to := to) (ns := goneN t.nodes to kd th) (mx := t.mx) (mb := t.mb) (nm := nm) (last := last) (is := decide ((t.at (k : Int)).kind = 2))
                  (ld := if to = d then remE (t.at (to : Int)).kids last else (t.at (d : Int)).kids) (lt := if to = d then remE (remE (t.at (to : Int)).kids last) nm else remE (t.at (to : Int)).kids last)
                  (by first | trivial | (simp -dsimp only [R1, simprocAttr, h8]; done) | rfl) (by first | trivial | (simp -dsimp only [R1, simprocAttr, h10]; done) | rfl) (by first | trivial | (simp -dsimp only [R1, simprocAttr, h12]; done) | rfl) (by first | trivial | (simp -dsimp only [R1, simprocAttr, h13]; done) | rfl) (by first | trivial | (simp -dsimp only [R1, simprocAttr, h14]; done) | rfl) (by first | trivial | (simp -dsimp only [R1, simprocAttr]; done) | rfl) ((q4 1 (by omega) (by omega)).trans p1) ((q4 2 (by omega) (by omega)).trans p2) ((q4 3 (by omega) (by omega)).trans p3) ((q4 4 (by omega) (by omega)).trans p4) ((q4 _ hl3 (by omega)).trans pu) q1 (by omega) (by omega) goneN_len.symm (by rw [goneN_len]; exact hdl) (by rw [goneN_len]; exact htl) (by rw [goneN_len]; exact hkl) ?_ ?_ ?_ ?_ ?_ ?_ ?_
                · rw [hget d hdl, if_neg (fun e => hthd e.symm)]
                  by_cases e : d = to
                  · subst e; simp only [if_true]; exact q2
                  · rw [if_neg e, if_neg (fun x => e x.symm), ← at_nat hdl]; exact .inl (hT.kds hd.1)
                · have h1 := hT.kids_le hd.1
                  have h2 := hT.kids_le hto.1
                  have h3 := remE_le (l := (t.at (to : Int)).kids) (nm := last)
                  split <;> omega
                · intro e; rw [if_pos e, if_pos e]
                · intro e
                  rw [hget to htl, if_neg (fun e => hthto e.symm), if_pos rfl, if_neg e]; exact q2
                · have hso := (hT.fit.dirs _ hto).2.2.sorted
                  split
                  · exact hso.rem.rem
                  · exact hso.rem
                · have h2 := hT.kids_le hto.1
                  have h3 := remE_le (l := (t.at (to : Int)).kids) (nm := last)
                  have h4 := remE_le (l := remE (t.at (to : Int)).kids last) (nm := nm)
                  split <;> omega
                · intro kd1 kd2 i st' i1 i2 i3 r1 r2 r3 r4
                  obtain ⟨t', f1, f2, f3⟩ := ren_fin hT (n := 3) (B := baseV t th) (l1 := remE (if to = d then remE (t.at (to : Int)).kids last else (t.at (d : Int)).kids) nm) r1 goneN_len r2 r3 (by
                    intro j hj0
                    have hj : j < t.nodes.length := by rw [goneN_len] at hj0; exact hj0
                    rw [hget j hj, hlk]
                    unfold baseV
                    by_cases e : j = th
                    · subst e
                      simp only [if_true]
                      by_cases e2 : (t.at (j : Int)).links = 1
                      · rw [if_pos (by omega), if_pos e2]
                        exact ⟨rfl, rfl, rfl, rfl, rfl, fun _ _ => .inl (.inl ⟨rfl, rfl, rfl⟩)⟩
                      · rw [if_neg (by omega), if_neg e2, ← at_nat hj]
                        exact ⟨rfl, rfl, rfl, rfl, rfl, fun _ _ => .inl (hT.kds (has_nat hj))⟩
                    · rw [if_neg e, if_neg (show ¬ (j : Int) = (th : Int) by omega)]
                      by_cases e2 : j = to
                      · rw [if_pos e2, ← at_nat hj]
                        exact ⟨rfl, rfl, rfl, rfl, rfl, fun a _ => absurd e2 a⟩
                      · rw [if_neg e2, ← at_nat hj]
                        exact ⟨rfl, rfl, rfl, rfl, rfl, fun _ _ => .inl (hT.kds (has_nat hj))⟩)
                  rw [goneN_len] at f1
                  refine hfin _ _ ⟨_, f1, .inr (.inr ⟨t', rfl, by rw [hthe]; exact hth0, fun h => by omega, fun _ => ?_, ?_⟩), fun h => absurd he h⟩
                  · rw [hthe]
                    exact ⟨by rw [← hw1], hw2⟩
                  · rw [hthe]
                    exact Moved.of f2 rfl i1 i2 i3 (fun e => by rw [if_neg e]) ⟨by omega, by omega, hth0⟩ f3
              · simp -dsimp only [↓R0, RA, simprocAttr, hf0, h4, h8, p0, p1, ps, ld24]
                exact hfin _ _ <| bad _ _ hf0 (fun h => absurd he h)
        · apply hIf_d <;> intro his
          · simp -dsimp only [↓R0, RA, simprocAttr, RQ, decide_eq_true his, decide_eq_false hwas, hthe, h4, h12, h13, h14, get_app c0, get_app c4, h1, hCall_d d71, un, Tr.ixh hT.ok hth.1, Tr.c4 hth.1, (hT.kds hth.1).lnV]
            refine hCall_c (d70c (es := [if true then 20 else 0, if false then 21 else 0, if false then 39 else 0, if false then 22 else 0]) (ver := 0) (rw := true) (fs := [.fn 124 [.ptr (st.length + 4) 0 0, .ptr (st.length + 5) 0 0], .fn 124 [.ptr (st.length + 6) 0 0, .ptr (st.length + 7) 0 0], .fn 124 [.ptr (st.length + 8) 0 0, .ptr (st.length + 9) 0 0], .fn 124 [.ptr (st.length + 10) 0 0, .ptr (st.length + 11) 0 0]]) ?_ rfl rfl (by simp) ?_) ?_
            · rw [app_get]; rfl
            · intro i hi
              match i, hi with
              | 0, _ => exact Tells.so (b := true) (e := 20) (by rw [app_get]; rfl) (by rw [app_get]; rfl)
              | 1, _ => exact Tells.so (b := false) (e := 21) (by rw [app_get]; rfl) (by rw [app_get]; rfl)
              | 2, _ => exact Tells.so (b := false) (e := 39) (by rw [app_get]; rfl) (by rw [app_get]; rfl)
              | 3, _ => exact Tells.so (b := false) (e := 22) (by rw [app_get]; rfl) (by rw [app_get]; rfl)
            · rintro _ st3 ⟨g3, rfl, hg3⟩
              simp only [List.append_assoc, List.cons_append, List.nil_append] at hg3
              have hfe : firstE [if true then 20 else 0, if false then 21 else 0, if false then 39 else 0, if false then 22 else 0] = 0 → ((t.at (k : Int)).kind = 2 ↔ (t.at (th : Int)).kind = 2) ∧ ((t.at (th : Int)).kind = 2 → (t.at (th : Int)).kids = [] ∧ (th : Int) ≠ cwd) := by
                intro h
                have c1 := ite_z (by decide) (firstE_0.1 h _ (List.Mem.head _))
                have c2 := ite_z (by decide) (firstE_0.1 h _ (List.Mem.tail _ (List.Mem.head _)))
                have c3 := ite_z (by decide) (firstE_0.1 h _ (List.Mem.tail _ (List.Mem.tail _ (List.Mem.head _))))
                have c4 := ite_z (by decide) (firstE_0.1 h _ (List.Mem.tail _ (List.Mem.tail _ (List.Mem.tail _ (List.Mem.head _)))))
                cases c1
              generalize firstE [if true then 20 else 0, if false then 21 else 0, if false then 39 else 0, if false then 22 else 0] = fe at *
              have p0 : st3[0]? = some (.cells 0 true 24 t.c) := by rw [hg3]; exact get_app c0
              have p1 : st3[1]? = some (.cells 0 true 24 [.nils, .int .i64 0, .int .i64 0]) := by rw [hg3]; exact get_app c1
              have p2 : st3[2]? = some (.cells 0 true 104 [.int .i64 d, .str nm, .int .i64 k]) := by rw [hg3]; exact get_app c2
              have p3 : st3[3]? = some (.cells 0 true 3 [.int .i64 to]) := by rw [hg3]; exact get_app c3
              have p4 : st3[4]? = some (.cells 0 true 4 [.bool (decide ((t.at (k : Int)).kind = 2))]) := by rw [hg3]; exact get_app c4
              have pi : st3[st.length + 2]? = some (.cells 1 true 38 (rowsI t.nodes)) := by rw [hg3, app_get]; rfl
              have pu : st3[st.length + 3]? = some (.cells 0 true 24 [.osl (st.length + 2) 1 6 0 t.nodes.length, .int .i64 t.mx, .int .i64 t.mb]) := by rw [hg3, app_get]; rfl
              have ps : ∀ b, (st3.set 1 b)[1]? = some b := fun b => get_set_eq p1
              simp -dsimp only [↓R0, RA, simprocAttr]
              apply hIf_d <;> intro hf0
              · obtain ⟨hw1, hw2⟩ := hfe hf0
                simp -dsimp only [↓R0, RA, simprocAttr, decide_eq_true hf0, h4, h12, h13, p3, pu, ld24, hthe]
                refine hCall_c (d74 (st := st3) (id := st.length + 2) (ver := 1) (dd := to) (k := th) (ns := t.nodes) (mx := t.mx) (mb := t.mb) (nm := last) (l := (t.at (to : Int)).kids) pi htl hthl (by rw [← at_nat htl]; exact .inl (hT.kds hto.1)) (by have := hT.kids_le hto.1; omega) (by rw [← at_nat hthl]; exact hT.links_le hth.1)) ?_
                rintro _ st4 ⟨kd, q1, q2, q3, q4, q5⟩
                have hl3 := get_lt pu
                simp -dsimp only [↓R0, RA, simprocAttr]
                have hthd : th ≠ d := by
                  rintro rfl
                  rw [(hw2 hd.2).1] at hent
                  obtain ⟨e, he, _⟩ := hent
                  cases he
                have hget : ∀ j (hj : j < t.nodes.length), (goneN t.nodes to kd th)[j]'(by rw [goneN_len]; exact hj) = _ := fun j hj => goneN_get htl hthl hj hthto
                have hlk : lnk t.nodes th = (t.at (th : Int)).links := by unfold lnk; rw [getD_at hthl, at_nat hthl]
                refine w60b (fr := _) (st := st4) (id := st.length + 2) (ver := 1) (u := st.length + 3) (k := k) (d := d) (to := to) (ns := goneN t.nodes to kd th) (mx := t.mx) (mb := t.mb) (nm := nm) (last := last) (is := decide ((t.at (k : Int)).kind = 2))
                  (ld := if to = d then remE (t.at (to : Int)).kids last else (t.at (d : Int)).kids) (lt := if to = d then remE (remE (t.at (to : Int)).kids last) nm else remE (t.at (to : Int)).kids last)
                  (by first | trivial | (simp -dsimp only [R1, simprocAttr, h8]; done) | rfl) (by first | trivial | (simp -dsimp only [R1, simprocAttr, h10]; done) | rfl) (by first | trivial | (simp -dsimp only [R1, simprocAttr, h12]; done) | rfl) (by first | trivial | (simp -dsimp only [R1, simprocAttr, h13]; done) | rfl) (by first | trivial | (simp -dsimp only [R1, simprocAttr, h14]; done) | rfl) (by first | trivial | (simp -dsimp only [R1, simprocAttr]; done) | rfl) ((q4 1 (by omega) (by omega)).trans p1) ((q4 2 (by omega) (by omega)).trans p2) ((q4 3 (by omega) (by omega)).trans p3) ((q4 4 (by omega) (by omega)).trans p4) ((q4 _ hl3 (by omega)).trans pu) q1 (by omega) (by omega) goneN_len.symm (by rw [goneN_len]; exact hdl) (by rw [goneN_len]; exact htl) (by rw [goneN_len]; exact hkl) ?_ ?_ ?_ ?_ ?_ ?_ ?_
                · rw [hget d hdl, if_neg (fun e => hthd e.symm)]
                  by_cases e : d = to
                  · subst e; simp only [if_true]; exact q2
                  · rw [if_neg e, if_neg (fun x => e x.symm), ← at_nat hdl]; exact .inl (hT.kds hd.1)
                · have h1 := hT.kids_le hd.1
                  have h2 := hT.kids_le hto.1
                  have h3 := remE_le (l := (t.at (to : Int)).kids) (nm := last)
                  split <;> omega
                · intro e; rw [if_pos e, if_pos e]
                · intro e
                  rw [hget to htl, if_neg (fun e => hthto e.symm), if_pos rfl, if_neg e]; exact q2
                · have hso := (hT.fit.dirs _ hto).2.2.sorted
                  split
                  · exact hso.rem.rem
                  · exact hso.rem
                · have h2 := hT.kids_le hto.1
                  have h3 := remE_le (l := (t.at (to : Int)).kids) (nm := last)
                  have h4 := remE_le (l := remE (t.at (to : Int)).kids last) (nm := nm)
                  split <;> omega
                · intro kd1 kd2 i st' i1 i2 i3 r1 r2 r3 r4
                  obtain ⟨t', f1, f2, f3⟩ := ren_fin hT (n := 3) (B := baseV t th) (l1 := remE (if to = d then remE (t.at (to : Int)).kids last else (t.at (d : Int)).kids) nm) r1 goneN_len r2 r3 (by
                    intro j hj0
                    have hj : j < t.nodes.length := by rw [goneN_len] at hj0; exact hj0
                    rw [hget j hj, hlk]
                    unfold baseV
                    by_cases e : j = th
                    · subst e
                      simp only [if_true]
                      by_cases e2 : (t.at (j : Int)).links = 1
                      · rw [if_pos (by omega), if_pos e2]
                        exact ⟨rfl, rfl, rfl, rfl, rfl, fun _ _ => .inl (.inl ⟨rfl, rfl, rfl⟩)⟩
                      · rw [if_neg (by omega), if_neg e2, ← at_nat hj]
                        exact ⟨rfl, rfl, rfl, rfl, rfl, fun _ _ => .inl (hT.kds (has_nat hj))⟩
                    · rw [if_neg e, if_neg (show ¬ (j : Int) = (th : Int) by omega)]
                      by_cases e2 : j = to
                      · rw [if_pos e2, ← at_nat hj]
                        exact ⟨rfl, rfl, rfl, rfl, rfl, fun a _ => absurd e2 a⟩
                      · rw [if_neg e2, ← at_nat hj]
                        exact ⟨rfl, rfl, rfl, rfl, rfl, fun _ _ => .inl (hT.kds (has_nat hj))⟩)
                  rw [goneN_len] at f1
                  refine hfin _ _ ⟨_, f1, .inr (.inr ⟨t', rfl, by rw [hthe]; exact hth0, fun h => by omega, fun _ => ?_, ?_⟩), fun h => absurd he h⟩
                  · rw [hthe]
                    exact ⟨by rw [← hw1], hw2⟩
                  · rw [hthe]
                    exact Moved.of f2 rfl i1 i2 i3 (fun e => by rw [if_neg e]) ⟨by omega, by omega, hth0⟩ f3
              · simp -dsimp only [↓R0, RA, simprocAttr, hf0, h4, h8, p0, p1, ps, ld24]
                exact hfin _ _ <| bad _ _ hf0 (fun h => absurd he h)
          · simp -dsimp only [↓R0, RA, simprocAttr, RQ, decide_eq_false his, decide_eq_false hwas, hthe, h4, h12, h13, h14, get_app c0, get_app c4, h1, hCall_d d71, un, Tr.ixh hT.ok hth.1, Tr.c4 hth.1, (hT.kds hth.1).lnV]
            refine hCall_c (d70c (es := [if false then 20 else 0, if false then 21 else 0, if false then 39 else 0, if false then 22 else 0]) (ver := 0) (rw := true) (fs := [.fn 124 [.ptr (st.length + 4) 0 0, .ptr (st.length + 5) 0 0], .fn 124 [.ptr (st.length + 6) 0 0, .ptr (st.length + 7) 0 0], .fn 124 [.ptr (st.length + 8) 0 0, .ptr (st.length + 9) 0 0], .fn 124 [.ptr (st.length + 10) 0 0, .ptr (st.length + 11) 0 0]]) ?_ rfl rfl (by simp) ?_) ?_
            · rw [app_get]; rfl
            · intro i hi
              match i, hi with
              | 0, _ => exact Tells.so (b := false) (e := 20) (by rw [app_get]; rfl) (by rw [app_get]; rfl)
              | 1, _ => exact Tells.so (b := false) (e := 21) (by rw [app_get]; rfl) (by rw [app_get]; rfl)
              | 2, _ => exact Tells.so (b := false) (e := 39) (by rw [app_get]; rfl) (by rw [app_get]; rfl)
              | 3, _ => exact Tells.so (b := false) (e := 22) (by rw [app_get]; rfl) (by rw [app_get]; rfl)
            · rintro _ st3 ⟨g3, rfl, hg3⟩
              simp only [List.append_assoc, List.cons_append, List.nil_append] at hg3
              have hfe : firstE [if false then 20 else 0, if false then 21 else 0, if false then 39 else 0, if false then 22 else 0] = 0 → ((t.at (k : Int)).kind = 2 ↔ (t.at (th : Int)).kind = 2) ∧ ((t.at (th : Int)).kind = 2 → (t.at (th : Int)).kids = [] ∧ (th : Int) ≠ cwd) := by
                intro h
                have c1 := ite_z (by decide) (firstE_0.1 h _ (List.Mem.head _))
                have c2 := ite_z (by decide) (firstE_0.1 h _ (List.Mem.tail _ (List.Mem.head _)))
                have c3 := ite_z (by decide) (firstE_0.1 h _ (List.Mem.tail _ (List.Mem.tail _ (List.Mem.head _))))
                have c4 := ite_z (by decide) (firstE_0.1 h _ (List.Mem.tail _ (List.Mem.tail _ (List.Mem.tail _ (List.Mem.head _)))))
                exact ⟨⟨fun h => absurd h his, fun h => absurd h hwas⟩, fun h => absurd h hwas⟩
              generalize firstE [if false then 20 else 0, if false then 21 else 0, if false then 39 else 0, if false then 22 else 0] = fe at *
              have p0 : st3[0]? = some (.cells 0 true 24 t.c) := by rw [hg3]; exact get_app c0
              have p1 : st3[1]? = some (.cells 0 true 24 [.nils, .int .i64 0, .int .i64 0]) := by rw [hg3]; exact get_app c1
              have p2 : st3[2]? = some (.cells 0 true 104 [.int .i64 d, .str nm, .int .i64 k]) := by rw [hg3]; exact get_app c2
              have p3 : st3[3]? = some (.cells 0 true 3 [.int .i64 to]) := by rw [hg3]; exact get_app c3
              have p4 : st3[4]? = some (.cells 0 true 4 [.bool (decide ((t.at (k : Int)).kind = 2))]) := by rw [hg3]; exact get_app c4
              have pi : st3[st.length + 2]? = some (.cells 1 true 38 (rowsI t.nodes)) := by rw [hg3, app_get]; rfl
              have pu : st3[st.length + 3]? = some (.cells 0 true 24 [.osl (st.length + 2) 1 6 0 t.nodes.length, .int .i64 t.mx, .int .i64 t.mb]) := by rw [hg3, app_get]; rfl
              have ps : ∀ b, (st3.set 1 b)[1]? = some b := fun b => get_set_eq p1
              simp -dsimp only [↓R0, RA, simprocAttr]
              apply hIf_d <;> intro hf0
              · obtain ⟨hw1, hw2⟩ := hfe hf0
                simp -dsimp only [↓R0, RA, simprocAttr, decide_eq_true hf0, h4, h12, h13, p3, pu, ld24, hthe]
                refine hCall_c (d74 (st := st3) (id := st.length + 2) (ver := 1) (dd := to) (k := th) (ns := t.nodes) (mx := t.mx) (mb := t.mb) (nm := last) (l := (t.at (to : Int)).kids) pi htl hthl (by rw [← at_nat htl]; exact .inl (hT.kds hto.1)) (by have := hT.kids_le hto.1; omega) (by rw [← at_nat hthl]; exact hT.links_le hth.1)) ?_
                rintro _ st4 ⟨kd, q1, q2, q3, q4, q5⟩
                have hl3 := get_lt pu
                simp -dsimp only [↓R0, RA, simprocAttr]
                have hthd : th ≠ d := by
                  rintro rfl
                  rw [(hw2 hd.2).1] at hent
                  obtain ⟨e, he, _⟩ := hent
                  cases he
                have hget : ∀ j (hj : j < t.nodes.length), (goneN t.nodes to kd th)[j]'(by rw [goneN_len]; exact hj) = _ := fun j hj => goneN_get htl hthl hj hthto
                have hlk : lnk t.nodes th = (t.at (th : Int)).links := by unfold lnk; rw [getD_at hthl, at_nat hthl]
                refine w60b (fr := _) (st := st4) (id := st.length + 2) (ver := 1) (u := st.length + 3) (k := k) (d := d) (to := to) (ns := goneN t.nodes to kd th) (mx := t.mx) (mb := t.mb) (nm := nm) (last := last) (is := decide ((t.at (k : Int)).kind = 2))
                  (ld := if to = d then remE (t.at (to : Int)).kids last else (t.at (d : Int)).kids) (lt := if to = d then remE (remE (t.at (to : Int)).kids last) nm else remE (t.at (to : Int)).kids last)
                  (by first | trivial | (simp -dsimp only [R1, simprocAttr, h8]; done) | rfl) (by first | trivial | (simp -dsimp only [R1, simprocAttr, h10]; done) | rfl) (by first | trivial | (simp -dsimp only [R1, simprocAttr, h12]; done) | rfl) (by first | trivial | (simp -dsimp only [R1, simprocAttr, h13]; done) | rfl) (by first | trivial | (simp -dsimp only [R1, simprocAttr, h14]; done) | rfl) (by first | trivial | (simp -dsimp only [R1, simprocAttr]; done) | rfl) ((q4 1 (by omega) (by omega)).trans p1) ((q4 2 (by omega) (by omega)).trans p2) ((q4 3 (by omega) (by omega)).trans p3) ((q4 4 (by omega) (by omega)).trans p4) ((q4 _ hl3 (by omega)).trans pu) q1 (by omega) (by omega) goneN_len.symm (by rw [goneN_len]; exact hdl) (by rw [goneN_len]; exact htl) (by rw [goneN_len]; exact hkl) ?_ ?_ ?_ ?_ ?_ ?_ ?_
                · rw [hget d hdl, if_neg (fun e => hthd e.symm)]
                  by_cases e : d = to
                  · subst e; simp only [if_true]; exact q2
                  · rw [if_neg e, if_neg (fun x => e x.symm), ← at_nat hdl]; exact .inl (hT.kds hd.1)
                · have h1 := hT.kids_le hd.1
                  have h2 := hT.kids_le hto.1
                  have h3 := remE_le (l := (t.at (to : Int)).kids) (nm := last)
                  split <;> omega
                · intro e; rw [if_pos e, if_pos e]
                · intro e
                  rw [hget to htl, if_neg (fun e => hthto e.symm), if_pos rfl, if_neg e]; exact q2
                · have hso := (hT.fit.dirs _ hto).2.2.sorted
                  split
                  · exact hso.rem.rem
                  · exact hso.rem
                · have h2 := hT.kids_le hto.1
                  have h3 := remE_le (l := (t.at (to : Int)).kids) (nm := last)
                  have h4 := remE_le (l := remE (t.at (to : Int)).kids last) (nm := nm)
                  split <;> omega
                · intro kd1 kd2 i st' i1 i2 i3 r1 r2 r3 r4
                  obtain ⟨t', f1, f2, f3⟩ := ren_fin hT (n := 3) (B := baseV t th) (l1 := remE (if to = d then remE (t.at (to : Int)).kids last else (t.at (d : Int)).kids) nm) r1 goneN_len r2 r3 (by
                    intro j hj0
                    have hj : j < t.nodes.length := by rw [goneN_len] at hj0; exact hj0
                    rw [hget j hj, hlk]
                    unfold baseV
                    by_cases e : j = th
                    · subst e
                      simp only [if_true]
                      by_cases e2 : (t.at (j : Int)).links = 1
                      · rw [if_pos (by omega), if_pos e2]
                        exact ⟨rfl, rfl, rfl, rfl, rfl, fun _ _ => .inl (.inl ⟨rfl, rfl, rfl⟩)⟩
                      · rw [if_neg (by omega), if_neg e2, ← at_nat hj]
                        exact ⟨rfl, rfl, rfl, rfl, rfl, fun _ _ => .inl (hT.kds (has_nat hj))⟩
                    · rw [if_neg e, if_neg (show ¬ (j : Int) = (th : Int) by omega)]
                      by_cases e2 : j = to
                      · rw [if_pos e2, ← at_nat hj]
                        exact ⟨rfl, rfl, rfl, rfl, rfl, fun a _ => absurd e2 a⟩
                      · rw [if_neg e2, ← at_nat hj]
                        exact ⟨rfl, rfl, rfl, rfl, rfl, fun _ _ => .inl (hT.kds (has_nat hj))⟩)
                  rw [goneN_len] at f1
                  refine hfin _ _ ⟨_, f1, .inr (.inr ⟨t', rfl, by rw [hthe]; exact hth0, fun h => by omega, fun _ => ?_, ?_⟩), fun h => absurd he h⟩
                  · rw [hthe]
                    exact ⟨by rw [← hw1], hw2⟩
                  · rw [hthe]
                    exact Moved.of f2 rfl i1 i2 i3 (fun e => by rw [if_neg e]) ⟨by omega, by omega, hth0⟩ f3
              · simp -dsimp only [↓R0, RA, simprocAttr, hf0, h4, h8, p0, p1, ps, ld24]
                exact hfin _ _ <| bad _ _ hf0 (fun h => absurd he h)
      · have hth1' : t.kid (to : Int) last = -1 := by
          rcases hT.kid_cases (to : Int) last with h | h
          · exact h
          · omega
        simp -dsimp only [↓R0, RA, simprocAttr, RQ, h4, h12, get_app c0, get_app c3, Tr.ixh hT.ok hto.1, Tr.c4 hto.1, (hT.kds hto.1).lnV]
        apply hIf_d <;> intro hfull
        · simp -dsimp only [↓R0, RA, simprocAttr, RQ, h4, h8, get_app c0, get_app c1, hs1, ld24]
          exact hfin _ _ <| bad 28 _ (by decide) (fun h => absurd he h)
        · simp -dsimp only [↓R0, RA, simprocAttr, RQ]
          have hno : ∀ e ∈ (t.at (to : Int)).kids, e.name ≠ last := by
            intro e he' hne
            have h := hth1'
            unfold Tr.kid at h
            rw [if_pos hto] at h
            rcases kidL_cases (t.at (to : Int)).kids last with ⟨_, g2⟩ | ⟨e2, g1, g2, g3⟩
            · exact g2 e he' hne
            · have := ((hT.fit.dirs _ hto).2.2.live e2 g1).1.1
              omega
          have hrem : remE (t.at (to : Int)).kids last = (t.at (to : Int)).kids := remE_none hno
          refine w60b (fr := _) (st := st ++ [ga, gb, .cells 1 true 38 (rowsI t.nodes), .cells 0 true 24 [.osl (st.length + 2) 1 6 0 t.nodes.length, .int .i64 t.mx, .int .i64 t.mb]]) (id := st.length + 2) (ver := 1) (u := st.length + 3) (k := k) (d := d) (to := to) (ns := t.nodes) (mx := t.mx) (mb := t.mb) (nm := nm) (last := last) (is := decide ((t.at (k : Int)).kind = 2))
            (ld := (t.at (d : Int)).kids) (lt := if to = d then remE (remE (t.at (to : Int)).kids last) nm else remE (t.at (to : Int)).kids last)
            (by first | trivial | (simp -dsimp only [R1, simprocAttr, h8]; done) | rfl) (by first | trivial | (simp -dsimp only [R1, simprocAttr, h10]; done) | rfl) (by first | trivial | (simp -dsimp only [R1, simprocAttr, h12]; done) | rfl) (by first | trivial | (simp -dsimp only [R1, simprocAttr, h13]; done) | rfl) (by first | trivial | (simp -dsimp only [R1, simprocAttr, h14]; done) | rfl) (by first | trivial | (simp -dsimp only [R1, simprocAttr]; done) | rfl) (get_app c1) (get_app c2) (get_app c3) (get_app c4) (by rw [app_get]; rfl) (by rw [app_get]; rfl) (by omega) (by omega) rfl hdl htl hkl ?_ ?_ ?_ ?_ ?_ ?_ ?_
          · rw [← at_nat hdl]; exact .inl (hT.kds hd.1)
          · have h1 := hT.kids_le hd.1
            omega
          · intro e; rw [if_pos e, hrem, e]
          · intro e
            rw [if_neg e, hrem, ← at_nat htl]; exact .inl (hT.kds hto.1)
          · have hso := (hT.fit.dirs _ hto).2.2.sorted
            split
            · exact hso.rem.rem
            · exact hso.rem
          · have h2 := hT.kids_le hto.1
            have h3 := remE_le (l := (t.at (to : Int)).kids) (nm := last)
            have h4 := remE_le (l := remE (t.at (to : Int)).kids last) (nm := nm)
            split <;> omega
          · intro kd1 kd2 i st' i1 i2 i3 r1 r2 r3 r4
            obtain ⟨t', f1, f2, f3⟩ := ren_fin hT (n := 3) (B := baseV t (-1)) (l1 := remE (t.at (d : Int)).kids nm) r1 rfl r2 r3 (by
              intro j hj
              unfold baseV
              rw [if_neg (show ¬ (j : Int) = -1 by omega), ← at_nat hj]
              exact ⟨rfl, rfl, rfl, rfl, rfl, fun _ _ => .inl (hT.kds (has_nat hj))⟩)
            refine hfin _ _ ⟨_, f1, .inr (.inr ⟨t', rfl, hth0, fun _ => by omega, fun h => absurd h hth1, ?_⟩), fun h => absurd he h⟩
            rw [hth1']
            exact Moved.of f2 rfl i1 i2 i3 (fun _ => rfl) ⟨by omega, by omega, by omega⟩ f3
  · have hs0 : ∀ b, (st.set 1 b)[1]? = some b := fun b => get_set_eq c1
    simp -dsimp only [↓R0, RA, simprocAttr, decide_eq_false he, h4, h8, h11, c0, c1, hs0, ld24]
    exact hfin _ _ <| bad e _ he (fun _ => rfl)
end
section
theorem t102 {t : Tr} (hT : T t) {to k d : Int} {nm : ByteArray} {st : Store} {a b c e : Nat} {r1 r2 r3 r4 : Bool} {is : Bool} (hto : t.dir to) (ha : st[a]? = some (.cells 0 r1 4 [.bool is])) (hb : st[b]? = some (.cells 0 r2 24 t.c)) (hc : st[c]? = some (.cells 0 r3 3 [.int .i64 to])) (he : st[e]? = some (.cells 0 r4 104 [.int .i64 d, .str nm, .int .i64 k])) :
    Tells st (.fn 102 [.ptr a 0 0, .ptr b 0 0, .ptr c 0 0, .ptr e 0 0]) (if is && t.within to k then 22 else 0) := by
  refine ⟨102, _, rfl, fun g => ?_⟩
  have main : CallW C TP 102 [.ptr a 0 0, .ptr b 0 0, .ptr c 0 0, .ptr e 0 0] (st ++ g) fun d st' => ∃ g', d = .int .i64 (if is && t.within to k then 22 else 0) ∧ st' = st ++ g ++ g' := by
    refine call_th rfl rfl (body_h b102 (by show 4 ≤ 15; decide) ?_)
    simp -dsimp only [↓R0, RA, simprocAttr, get_app ha]
    cases is with
    | true =>
      simp -dsimp only [↓R0, RA, simprocAttr, get_app hb, get_app hc, get_app he, hCall_g (s103 hT hto), hCall_d d71]
      have h1 : ((st ++ g) ++ [.cells 0 true 4 [.bool (t.within to k)], .cells 0 true 83 [.int .i64 22]])[(st ++ g).length]? = some (.cells 0 true 4 [.bool (t.within to k)]) := by rw [app_get0]; rfl
      have h2 : ((st ++ g) ++ [.cells 0 true 4 [.bool (t.within to k)], .cells 0 true 83 [.int .i64 22]])[(st ++ g).length + 1]? = some (.cells 0 true 83 [.int .i64 22]) := by rw [app_get]; rfl
      simp -dsimp only [↓R0, RA, simprocAttr, hCall_d (d124 h1 h2)]
      exact ⟨[.cells 0 true 4 [.bool (t.within to k)], .cells 0 true 83 [.int .i64 22]], by simp, rfl⟩
    | false =>
      simp -dsimp only [↓R0, RA, simprocAttr, hCall_d d71]
      have h1 : ((st ++ g) ++ [.cells 0 true 4 [.bool false], .cells 0 true 83 [.int .i64 22]])[(st ++ g).length]? = some (.cells 0 true 4 [.bool false]) := by rw [app_get0]; rfl
      have h2 : ((st ++ g) ++ [.cells 0 true 4 [.bool false], .cells 0 true 83 [.int .i64 22]])[(st ++ g).length + 1]? = some (.cells 0 true 83 [.int .i64 22]) := by rw [app_get]; rfl
      simp -dsimp only [↓R0, RA, simprocAttr, hCall_d (d124 h1 h2)]
      exact ⟨[.cells 0 true 4 [.bool false], .cells 0 true 83 [.int .i64 22]], by simp, rfl⟩
  obtain ⟨d, st', hd, g', rfl, rfl⟩ := main.does
  exact ⟨g', hd⟩
theorem fpf79 {st : Store} {ds : List D} : fpC C st (some (.fn 79 [])) (some ds) = .free := fpfrz ⟨rfl, rfl⟩
theorem fpf100 {st : Store} {ds : List D} : fpC C st (some (.fn 100 [])) (some ds) = .free := fpfrz ⟨rfl, rfl⟩
theorem fpf101 {st : Store} {ds : List D} : fpC C st (some (.fn 101 [])) (some ds) = .free := fpfrz ⟨rfl, rfl⟩
theorem s60 {t : Tr} (hT : T t) {cwd : Int} {old p : ByteArray} (ho : old.size ≤ 9223372036854775807) (hp : p.size ≤ 9223372036854775807) :
    ∃ d', Gives C TP 60 [t.d, .int .i64 cwd, .str old, .str p] d' ∧ ((∃ e : Int, e ≠ 0 ∧ d' = .tup [t.d, .int .i64 e]) ∨
      ∃ (d k to : Nat) (nm last : ByteArray), (t.named cwd old).2 = 0 ∧ (t.named cwd old).1 = ⟨d, nm, k⟩ ∧ t.parent cwd p = ((to : Int), last, 0) ∧ NameOk last ∧ t.may (to : Int) 3 ∧ ((t.at (k : Int)).kind = 2 → t.within (to : Int) k = false) ∧ RenD t cwd d k nm to last d') := by
  refine frz_ex rfl rfl (ref4l hT.ok) (body_h b60s (by show 4 ≤ 184; decide) ?_)
  have bad : ∀ (e' : Int) (st : Store), e' ≠ 0 → ∃ d', fz st 8 (.tup [t.d, .int .i64 e']) = some d' ∧ ((∃ e : Int, e ≠ 0 ∧ d' = .tup [t.d, .int .i64 e]) ∨
      ∃ (d k to : Nat) (nm last : ByteArray), (t.named cwd old).2 = 0 ∧ (t.named cwd old).1 = ⟨d, nm, k⟩ ∧ t.parent cwd p = ((to : Int), last, 0) ∧ NameOk last ∧ t.may (to : Int) 3 ∧ ((t.at (k : Int)).kind = 2 → t.within (to : Int) k = false) ∧ RenD t cwd d k nm to last d') :=
    fun e' st he => ⟨_, fz_0 (by simp only [refs, refsL, hT.ok.ref, List.append_nil]), .inl ⟨e', he, rfl⟩⟩
  have hno := hT.named_ok (cwd := cwd) (p := old)
  have g69 := s69 (cwd := cwd) hT ho
  generalize t.named cwd old = q at *
  obtain ⟨⟨d, nm, k⟩, e⟩ := q
  have hpd := hT.parent_dir (cwd := cwd) (p := p)
  have g99 := s99 (cwd := cwd) hT hp
  generalize t.parent cwd p = q at *
  obtain ⟨to, last, e2⟩ := q
  simp only [] at hno g69 hpd g99
  simp -dsimp only [↓R0, RA, simprocAttr, hCall_g g69]
  apply hIf_d <;> intro h1
  · subst h1
    obtain ⟨d, k, nm, e1, hpar, hd, hn1, hn2, hlive, hkid, hmay, hent⟩ := hno rfl
    injection e1 with e1 e2' e3
    subst e1 e2' e3
    simp -dsimp only [↓R0, RA, simprocAttr, hCall_g g99]
    apply hIf_d <;> intro h2
    · subst h2
      have hto := hpd rfl
      obtain ⟨to, rfl⟩ : ∃ n : Nat, to = n := ⟨to.toNat, by have := hto.1.1; omega⟩
      simp -dsimp only [↓R0, RA, simprocAttr, hCall_g (s72 hT.ok hlive.1)]
      have hkd : k ≠ d := by
        rintro rfl
        exact hT.kid_ne hkid
      have hkt : ((t.at (k : Int)).kind = 2 → t.within (to : Int) k = false) → k ≠ to := by
        rintro h rfl
        have := h hto.2
        unfold Tr.within Tr.wi at this
        rw [if_pos rfl] at this
        cases this
      refine regX_h x60_8 c60_8 ?_
      simp -dsimp only [↓R0, RA, simprocAttr, RQ, ↓R5, R6, hCall_g s100, hCall_d d71, un, hCall_g (s79 (w := 3) hT.ok hT.modes (by decide))]
      apply hIf_d <;> intro his
      · simp -dsimp only [↓R0, RA, simprocAttr, RQ, ↓R5, R6, decide_eq_true his, hCall_g s100, hCall_d d71, un, hCall_g (s79 (w := 3) hT.ok hT.modes (by decide)), hCall_g (s101 hp), hCall_g (s101 ho)]
        refine hCall_c (d70c (es := [if !decide (NameOk last) then 22 else 0, if !decide (t.may (to : Int) 3) then 13 else 0, if false then 20 else 0, if true && t.within (to : Int) k then 22 else 0]) rfl rfl rfl (by simp) ?_) ?_
        · intro i hi
          match i, hi with
          | 0, _ => exact Tells.so rfl rfl
          | 1, _ => exact Tells.so rfl rfl
          | 2, _ => exact Tells.so (b := false) (e := 20) rfl rfl
          | 3, _ => exact t102 (is := true) hT hto rfl rfl rfl rfl
        · rintro _ st3 ⟨g3, rfl, hg3⟩
          have hfe : firstE [if !decide (NameOk last) then 22 else 0, if !decide (t.may (to : Int) 3) then 13 else 0, if false then 20 else 0, if true && t.within (to : Int) k then 22 else 0] = 0 → NameOk last ∧ t.may (to : Int) 3 ∧ ((t.at (k : Int)).kind = 2 → t.within (to : Int) k = false) := by
            intro h
            have c1 := ite_z (by decide) (firstE_0.1 h _ (List.Mem.head _))
            have c2 := ite_z (by decide) (firstE_0.1 h _ (List.Mem.tail _ (List.Mem.head _)))
            have c4 := ite_z (by decide) (firstE_0.1 h _ (List.Mem.tail _ (List.Mem.tail _ (List.Mem.tail _ (List.Mem.head _)))))
            simp only [Bool.not_eq_false', decide_eq_true_eq] at c1 c2
            exact ⟨c1, c2, (fun _ => by simpa using c4)⟩
          generalize firstE [if !decide (NameOk last) then 22 else 0, if !decide (t.may (to : Int) 3) then 13 else 0, if false then 20 else 0, if true && t.within (to : Int) k then 22 else 0] = fe at *
          have p0 : st3[0]? = some (.cells 0 true 24 t.c) := by rw [hg3]; rfl
          have p1 : st3[1]? = some (.cells 0 true 24 [.nils, .int .i64 0, .int .i64 0]) := by rw [hg3]; rfl
          have p2 : st3[2]? = some (.cells 0 true 104 [.int .i64 d, .str nm, .int .i64 k]) := by rw [hg3]; rfl
          have p3 : st3[3]? = some (.cells 0 true 3 [.int .i64 to]) := by rw [hg3]; rfl
          have p4 : st3[4]? = some (.cells 0 true 4 [.bool (decide ((t.at (k : Int)).kind = 2))]) := by rw [hg3]; first | rfl | (rw [decide_eq_true his]; rfl) | (rw [decide_eq_false his]; rfl)
          simp -dsimp only [↓R0, RA, simprocAttr, RQ, ↓R5, R6]
          refine ⟨by first | (simp only [fp71s, fpf79, fpf100, fpf101]; simp [fpOk]; done) | simp [fpOk], ?_⟩
          refine w60a (fr := _) (cwd := cwd) (e := fe) hT (by first | trivial | (simp -dsimp only [R1, simprocAttr]; done) | rfl) (by first | trivial | (simp -dsimp only [R1, simprocAttr]; done) | rfl) (by first | trivial | (simp -dsimp only [R1, simprocAttr]; done) | rfl) (by first | trivial | (simp -dsimp only [R1, simprocAttr]; done) | rfl) (by first | trivial | (simp -dsimp only [R1, simprocAttr]; done) | rfl) (by first | trivial | (simp -dsimp only [R1, simprocAttr]; done) | rfl) (by first | trivial | (simp -dsimp only [R1, simprocAttr]; done) | rfl) (by first | trivial | (simp -dsimp only [R1, simprocAttr]; done) | rfl) p0 p1 p2 p3 p4 hd hto hlive hkid hent hkd (fun h => hkt (hfe h).2.2) ?_
          rintro d0 st' ⟨d', f1, f2, f3⟩
          refine ⟨d', f1, ?_⟩
          by_cases h0 : fe = 0
          · obtain ⟨c1, c2, c3⟩ := hfe h0
            exact .inr ⟨d, k, to, nm, last, by first | trivial | rfl, by first | trivial | rfl, by first | trivial | rfl, c1, c2, c3, f2⟩
          · exact .inl ⟨fe, h0, f3 h0⟩
      · simp -dsimp only [↓R0, RA, simprocAttr, RQ, ↓R5, R6, decide_eq_false his, hCall_g (s101 hp)]
        apply hIf_d <;> intro hsl
        · simp -dsimp only [↓R0, RA, simprocAttr, RQ, ↓R5, R6, decide_eq_false his, decide_eq_true hsl, hCall_g s100, hCall_d d71, un, hCall_g (s79 (w := 3) hT.ok hT.modes (by decide)), hCall_g (s101 hp), hCall_g (s101 ho)]
          refine hCall_c (d70c (es := [if !decide (NameOk last) then 22 else 0, if !decide (t.may (to : Int) 3) then 13 else 0, if true then 20 else 0, if false && t.within (to : Int) k then 22 else 0]) rfl rfl rfl (by simp) ?_) ?_
          · intro i hi
            match i, hi with
            | 0, _ => exact Tells.so rfl rfl
            | 1, _ => exact Tells.so rfl rfl
            | 2, _ => exact Tells.so (b := true) (e := 20) rfl rfl
            | 3, _ => exact t102 (is := false) hT hto rfl rfl rfl rfl
          · rintro _ st3 ⟨g3, rfl, hg3⟩
            have hfe : firstE [if !decide (NameOk last) then 22 else 0, if !decide (t.may (to : Int) 3) then 13 else 0, if true then 20 else 0, if false && t.within (to : Int) k then 22 else 0] = 0 → NameOk last ∧ t.may (to : Int) 3 ∧ ((t.at (k : Int)).kind = 2 → t.within (to : Int) k = false) := by
              intro h
              have c1 := ite_z (by decide) (firstE_0.1 h _ (List.Mem.head _))
              have c2 := ite_z (by decide) (firstE_0.1 h _ (List.Mem.tail _ (List.Mem.head _)))
              have c4 := ite_z (by decide) (firstE_0.1 h _ (List.Mem.tail _ (List.Mem.tail _ (List.Mem.tail _ (List.Mem.head _)))))
              simp only [Bool.not_eq_false', decide_eq_true_eq] at c1 c2
              exact ⟨c1, c2, (fun h => absurd h his)⟩
            generalize firstE [if !decide (NameOk last) then 22 else 0, if !decide (t.may (to : Int) 3) then 13 else 0, if true then 20 else 0, if false && t.within (to : Int) k then 22 else 0] = fe at *
            have p0 : st3[0]? = some (.cells 0 true 24 t.c) := by rw [hg3]; rfl
            have p1 : st3[1]? = some (.cells 0 true 24 [.nils, .int .i64 0, .int .i64 0]) := by rw [hg3]; rfl
            have p2 : st3[2]? = some (.cells 0 true 104 [.int .i64 d, .str nm, .int .i64 k]) := by rw [hg3]; rfl
            have p3 : st3[3]? = some (.cells 0 true 3 [.int .i64 to]) := by rw [hg3]; rfl
            have p4 : st3[4]? = some (.cells 0 true 4 [.bool (decide ((t.at (k : Int)).kind = 2))]) := by rw [hg3]; first | rfl | (rw [decide_eq_true his]; rfl) | (rw [decide_eq_false his]; rfl)
            simp -dsimp only [↓R0, RA, simprocAttr, RQ, ↓R5, R6]
            refine ⟨by first | (simp only [fp71s, fpf79, fpf100, fpf101]; simp [fpOk]; done) | simp [fpOk], ?_⟩
            refine w60a (fr := _) (cwd := cwd) (e := fe) hT (by first | trivial | (simp -dsimp only [R1, simprocAttr]; done) | rfl) (by first | trivial | (simp -dsimp only [R1, simprocAttr]; done) | rfl) (by first | trivial | (simp -dsimp only [R1, simprocAttr]; done) | rfl) (by first | trivial | (simp -dsimp only [R1, simprocAttr]; done) | rfl) (by first | trivial | (simp -dsimp only [R1, simprocAttr]; done) | rfl) (by first | trivial | (simp -dsimp only [R1, simprocAttr]; done) | rfl) (by first | trivial | (simp -dsimp only [R1, simprocAttr]; done) | rfl) (by first | trivial | (simp -dsimp only [R1, simprocAttr]; done) | rfl) p0 p1 p2 p3 p4 hd hto hlive hkid hent hkd (fun h => hkt (hfe h).2.2) ?_
            rintro d0 st' ⟨d', f1, f2, f3⟩
            refine ⟨d', f1, ?_⟩
            by_cases h0 : fe = 0
            · obtain ⟨c1, c2, c3⟩ := hfe h0
              exact .inr ⟨d, k, to, nm, last, by first | trivial | rfl, by first | trivial | rfl, by first | trivial | rfl, c1, c2, c3, f2⟩
            · exact .inl ⟨fe, h0, f3 h0⟩
        · simp -dsimp only [↓R0, RA, simprocAttr, RQ, ↓R5, R6, decide_eq_false his, decide_eq_false hsl, hCall_g s100, hCall_d d71, un, hCall_g (s79 (w := 3) hT.ok hT.modes (by decide)), hCall_g (s101 hp), hCall_g (s101 ho)]
          refine hCall_c (d70c (es := [if !decide (NameOk last) then 22 else 0, if !decide (t.may (to : Int) 3) then 13 else 0, if decide (slashed old) then 20 else 0, if false && t.within (to : Int) k then 22 else 0]) rfl rfl rfl (by simp) ?_) ?_
          · intro i hi
            match i, hi with
            | 0, _ => exact Tells.so rfl rfl
            | 1, _ => exact Tells.so rfl rfl
            | 2, _ => exact Tells.so (b := decide (slashed old)) (e := 20) rfl rfl
            | 3, _ => exact t102 (is := false) hT hto rfl rfl rfl rfl
          · rintro _ st3 ⟨g3, rfl, hg3⟩
            have hfe : firstE [if !decide (NameOk last) then 22 else 0, if !decide (t.may (to : Int) 3) then 13 else 0, if decide (slashed old) then 20 else 0, if false && t.within (to : Int) k then 22 else 0] = 0 → NameOk last ∧ t.may (to : Int) 3 ∧ ((t.at (k : Int)).kind = 2 → t.within (to : Int) k = false) := by
              intro h
              have c1 := ite_z (by decide) (firstE_0.1 h _ (List.Mem.head _))
              have c2 := ite_z (by decide) (firstE_0.1 h _ (List.Mem.tail _ (List.Mem.head _)))
              have c4 := ite_z (by decide) (firstE_0.1 h _ (List.Mem.tail _ (List.Mem.tail _ (List.Mem.tail _ (List.Mem.head _)))))
              simp only [Bool.not_eq_false', decide_eq_true_eq] at c1 c2
              exact ⟨c1, c2, (fun h => absurd h his)⟩
            generalize firstE [if !decide (NameOk last) then 22 else 0, if !decide (t.may (to : Int) 3) then 13 else 0, if decide (slashed old) then 20 else 0, if false && t.within (to : Int) k then 22 else 0] = fe at *
            have p0 : st3[0]? = some (.cells 0 true 24 t.c) := by rw [hg3]; rfl
            have p1 : st3[1]? = some (.cells 0 true 24 [.nils, .int .i64 0, .int .i64 0]) := by rw [hg3]; rfl
            have p2 : st3[2]? = some (.cells 0 true 104 [.int .i64 d, .str nm, .int .i64 k]) := by rw [hg3]; rfl
            have p3 : st3[3]? = some (.cells 0 true 3 [.int .i64 to]) := by rw [hg3]; rfl
            have p4 : st3[4]? = some (.cells 0 true 4 [.bool (decide ((t.at (k : Int)).kind = 2))]) := by rw [hg3]; first | rfl | (rw [decide_eq_true his]; rfl) | (rw [decide_eq_false his]; rfl)
            simp -dsimp only [↓R0, RA, simprocAttr, RQ, ↓R5, R6]
            refine ⟨by first | (simp only [fp71s, fpf79, fpf100, fpf101]; simp [fpOk]; done) | simp [fpOk], ?_⟩
            refine w60a (fr := _) (cwd := cwd) (e := fe) hT (by first | trivial | (simp -dsimp only [R1, simprocAttr]; done) | rfl) (by first | trivial | (simp -dsimp only [R1, simprocAttr]; done) | rfl) (by first | trivial | (simp -dsimp only [R1, simprocAttr]; done) | rfl) (by first | trivial | (simp -dsimp only [R1, simprocAttr]; done) | rfl) (by first | trivial | (simp -dsimp only [R1, simprocAttr]; done) | rfl) (by first | trivial | (simp -dsimp only [R1, simprocAttr]; done) | rfl) (by first | trivial | (simp -dsimp only [R1, simprocAttr]; done) | rfl) (by first | trivial | (simp -dsimp only [R1, simprocAttr]; done) | rfl) p0 p1 p2 p3 p4 hd hto hlive hkid hent hkd (fun h => hkt (hfe h).2.2) ?_
            rintro d0 st' ⟨d', f1, f2, f3⟩
            refine ⟨d', f1, ?_⟩
            by_cases h0 : fe = 0
            · obtain ⟨c1, c2, c3⟩ := hfe h0
              exact .inr ⟨d, k, to, nm, last, by first | trivial | rfl, by first | trivial | rfl, by first | trivial | rfl, c1, c2, c3, f2⟩
            · exact .inl ⟨fe, h0, f3 h0⟩
    · simp -dsimp only [↓R0, RA, simprocAttr, decide_eq_false h2, ld24]
      exact ⟨_, fz_0 (by simp only [refs, refsL, hT.ok.ref, List.append_nil]), .inl ⟨_, h2, rfl⟩⟩
  · simp -dsimp only [↓R0, RA, simprocAttr, decide_eq_false h1, ld24]
    exact ⟨_, fz_0 (by simp only [refs, refsL, hT.ok.ref, List.append_nil]), .inl ⟨_, h1, rfl⟩⟩
end
section
theorem ar182 : ar TP 182 = some (4, 83, 1) := by kernel_rfl
theorem lay83 : lay TP 83 = some (false, 1) := by kernel_rfl
def noFile (k : Int) : Int := if k = 0 then 2 else if k = 1 then 0 else if k = 2 then 21 else 22
theorem ix140 {fr : Fr} {st : Store} {k : Int} (h14 : fr 14 = .agg [.int .i64 2, .int .i64 0, .int .i64 21, .int .i64 22]) (h20 : fr 20 = .int .i64 k) (hk : k = 0 ∨ k = 1 ∨ k = 2 ∨ k = 3) : stepOp TP fr st (.index 182 (.tmp 14) (.tmp 20)) = some (.int .i64 (noFile k), st) := by
  unfold stepOp
  have e1 : rd fr (.tmp 14) = some (.agg [.int .i64 2, .int .i64 0, .int .i64 21, .int .i64 22]) := by simp only [rd, h14]
  have e2 : rd fr (.tmp 20) = some (.int .i64 k) := by simp only [rd, h20]
  simp only [e1, e2, indexD, ar182]
  rcases hk with rfl | rfl | rfl | rfl <;> simp [idx, partD, ld_one lay83, noFile]
theorem s140 {t : Tr} (hT : T t) {k : Int} (hk : t.has k) : Gives C TP 140 [t.d, .int .i64 k] (.int .i64 (noFile (t.at k).kind)) := by
  refine gives_frz rfl rfl (ref1 hT.ok) (body_h b140 (by show 2 ≤ 22; decide) ?_)
  have h0 : ¬ k < 0 := by have := hk.1; omega
  have h1 : ¬ ((t.nodes.length : Int) ≤ k) := by have := hk.2; unfold Tr.n at this; omega
  simp -dsimp only [↓R0, RA, simprocAttr, h0, h1, hT.ok.nd.lnV, Tr.ixh hT.ok hk, Tr.c0 hk]
  rw [ix140 rfl (by rfl) (hT.fit.one k hk).1.kind]
  simp -dsimp only [↓R0, RA, simprocAttr]
  rfl
theorem wr_all : ∀ (vs pre post cs : List D), cs.length = vs.length → wr (pre ++ cs ++ post) pre.length vs = pre ++ vs ++ post
  | [], pre, post, cs, h => by
    have : cs = [] := List.eq_nil_of_length_eq_zero (by simpa using h)
    subst this; rfl
  | v :: vs, pre, post, [], h => by simp at h
  | v :: vs, pre, post, c :: cs, h => by
    unfold wr
    have e1 : (pre ++ c :: cs ++ post).set pre.length v = (pre ++ [v]) ++ cs ++ post := by
      rw [List.append_assoc, List.set_append_right _ _ (Nat.le_refl _), Nat.sub_self]
      simp
    have e2 : pre.length + 1 = (pre ++ [v]).length := by simp
    rw [e1, e2, wr_all vs (pre ++ [v]) post cs (by simpa using h)]
    simp
theorem wr0 {cs vs : List D} (h : cs.length = vs.length) : wr cs 0 vs = vs := by
  have := wr_all vs [] [] cs h
  simpa using this
theorem bytesOf_of : ∀ (l : List UInt8), bytesOf (ofBytes l) = some l
  | [] => rfl
  | b :: l => by
    have h : ofBytes (b :: l) = .int .u8 b.toNat :: ofBytes l := rfl
    rw [h]
    unfold bytesOf
    rw [bytesOf_of l]
    simp
theorem wr_len : ∀ (vs cs : List D) (o : Nat), (wr cs o vs).length = cs.length
  | [], cs, o => rfl
  | v :: vs, cs, o => by unfold wr; rw [wr_len vs]; simp
theorem rep_len1 {d : D} : ∀ n, (rep [d] n).length = n
  | 0 => rfl
  | n + 1 => by unfold rep; simp [rep_len1 n]
theorem ofBytes_len {l : List UInt8} : (ofBytes l).length = l.length := by simp [ofBytes]
theorem cpy_any {st : Store} {id n : Nat} {cs : List D} {s : ByteArray} (hb : st[id]? = some (.cells 0 true 5 cs)) (hc : cs.length = n) :
    ∃ cs' m, cs'.length = n ∧ (s.size = n → cs' = ofBytes s.data.toList) ∧ copyM st 1 (.osl id 0 1 0 n) (.str s) = some (.int .i64 m, st.set id (.cells 0 true 5 cs')) := by
  have hs : s.data.toList.length = s.size := rfl
  have hsz : (ofBytes s.data.toList).length = s.size := ofBytes_len
  by_cases h0 : min s.size n = 0
  · refine ⟨cs, 0, hc, fun h => ?_, ?_⟩
    · have h1 : n = 0 := by omega
      have h2 : cs = [] := List.eq_nil_of_length_eq_zero (by omega)
      have h3 : ofBytes s.data.toList = [] := List.eq_nil_of_length_eq_zero (by omega)
      rw [h2, h3]
    · have hset : st.set id (.cells 0 true 5 cs) = st := by
        apply List.ext_getElem?
        intro j
        by_cases e : j = id
        · subst e; rw [get_set_eq hb, hb]
        · rw [get_set_ne e]
      rw [hset]
      simp only [copyM, srcCells, if_true, lenOf, h0, slNil, Option.isSome]
  · refine ⟨wr cs 0 ((ofBytes s.data.toList).take (min s.size n * 1)), (min s.size n : Nat), by rw [wr_len]; exact hc, fun h => ?_, ?_⟩
    · rw [h, Nat.min_self, Nat.mul_one, List.take_of_length_le (by omega)]
      exact wr0 (by omega)
    · simp only [copyM, srcCells, if_true, lenOf, h0, if_false, hb, Nat.zero_add, Nat.mul_one, hc, Nat.le_refl, and_self]
def Ino.wdt (x : Ino) (v : ByteArray) : Ino := { x with data := v }
def setD (ns : List Ino) (k : Nat) (v : ByteArray) : List Ino := ns.set k ((ns.getD k .free).wdt v)
theorem setD_get {ns : List Ino} {k j : Nat} {w : ByteArray} (hj : j < ns.length) : (setD ns k w)[j]? = some (if j = k then ns[j].wdt w else ns[j]) := by
  unfold setD
  rw [List.getElem?_set]
  by_cases e : k = j
  · subst e; rw [if_pos rfl, if_pos hj, if_pos rfl, getD_at hj]
  · rw [if_neg e, if_neg (show ¬ j = k from fun x => e x.symm), List.getElem?_eq_getElem hj]
theorem setD_len {ns : List Ino} {d : Nat} {v : ByteArray} : (setD ns d v).length = ns.length := by simp [setD]
structure Filled (t t' : Tr) (k : Nat) (s : ByteArray) : Prop where
  like : Like t t'
  ex : ∀ j : Nat, j < t.nodes.length → (t'.at (j : Int)).v = if j = k then { (t.at (j : Int)).v with data := s } else (t.at (j : Int)).v
theorem fill_frz {t : Tr} (hT : T t) {st : Store} {id ver k : Nat} {s : ByteArray} {n : Nat} (hkl : k < t.nodes.length) (hblk : st[id]? = some (.cells ver true 38 (rowsI (setD t.nodes k s)))) :
    ∃ t' : Tr, fz st (n + 4) (.agg [.osl id ver 6 0 t.nodes.length, .int .i64 t.mx, .int .i64 t.mb]) = some t'.d ∧ Filled t t' k s := by
  have hg : ∀ j (hj : j < t.nodes.length), (setD t.nodes k s)[j]'(by rw [setD_len]; exact hj) = if j = k then (t.at (j : Int)).wdt s else t.at (j : Int) := fun j hj => by
    rw [getO (by rw [setD_len]; exact hj) (setD_get hj), at_nat hj]
  obtain ⟨t', f1, f2, f3, f4, f5, f6⟩ := nodes_frz (n := n) (mx := t.mx) (mb := t.mb) (L := fun j => (t.at (j : Int)).kids) hblk (by rw [setD_len]; exact hT.n) (by
    intro j hj0
    have hj : j < t.nodes.length := by rw [setD_len] at hj0; exact hj0
    rw [hg j hj]
    split
    · exact .inl (hT.kds (has_nat hj))
    · exact .inl (hT.kds (has_nat hj)))
  rw [setD_len] at f1 f3
  refine ⟨t', f1, ⟨f2, f3, f4, f5⟩, ?_⟩
  intro j hj
  rw [f6 j (by rw [setD_len]; exact hj), hg j hj]
  split <;> rfl
theorem le_sum {l : List Nat} {x : Nat} (h : x ∈ l) : x ≤ l.sum := by
  induction l with
  | nil => cases h
  | cons y l ih =>
    rw [List.sum_cons]
    rcases List.mem_cons.1 h with rfl | h
    · omega
    · have := ih h; omega
theorem Tr.size_le {t : Tr} {k : Int} (h : t.has k) : (t.at k).data.size ≤ t.sum := le_sum (List.mem_map.2 ⟨_, Tr.at_mem h, rfl⟩)
theorem s141 {t : Tr} (hT : T t) {k : Nat} {s : ByteArray} (hk : t.has (k : Int)) (hs : s.size ≤ 65536) :
    ∃ d, Gives C TP 141 [t.d, .int .i64 k, .int .i64 s.size, .int .i64 0, .str s] d ∧ ((d = .tup [t.d, .int .i64 28] ∧ t.mb < t.sum - (t.at (k : Int)).data.size + s.size) ∨
      ∃ t', d = .tup [t'.d, .int .i64 0] ∧ t.sum - (t.at (k : Int)).data.size + s.size ≤ t.mb ∧ Filled t t' k s) := by
  refine frz_ex rfl rfl (by simp only [refsL, refs, Tr.d, Tr.c, hT.ok.ref, List.append_nil]) (body_h b141 (by show 5 ≤ 61; decide) ?_)
  have hkl : k < t.nodes.length := by have := hk.2; unfold Tr.n at this; omega
  have hsum := hT.sum_le
  have hdat := (hT.fit.one _ hk).2
  have w1 : IntKind.i64.wrap ((t.sum : Int) - (t.at (k : Int)).data.size) = (t.sum : Int) - (t.at (k : Int)).data.size := by rw [w64] <;> omega
  have w2 : IntKind.i64.wrap ((t.sum : Int) - (t.at (k : Int)).data.size + s.size) = (t.sum : Int) - (t.at (k : Int)).data.size + s.size := by rw [w64] <;> omega
  obtain ⟨nu, hu⟩ := s150 hT
  simp -dsimp only [↓R0, RA, simprocAttr, Tr.ixh hT.ok hk, Tr.c3 hk, hCall_g hu, w1, w2]
  apply hIf_d <;> intro h1
  · simp -dsimp only [↓R0, RA, simprocAttr, ld24]
    exact ⟨_, fz_0 (by simp only [refs, refsL, hT.ok.ref, List.append_nil]), .inl ⟨rfl, h1⟩⟩
  · have m1 : (s.size : Int) ≤ 281474976710656 := by omega
    have m2 : (0 : Int) ≤ s.size := by omega
    have m3 : ((1 : Nat) : Int) * (s.size : Int) ≤ 281474976710656 := by omega
    have m3b : (1 : Int) * (s.size : Int) ≤ 281474976710656 := by omega
    have m5 : sliceL 1 (.osl 2 0 1 0 s.size) (some (.int .i64 0)) none = some (.osl 2 0 1 0 s.size) := by simp [sliceL, bound]
    have m4 : ¬ ((s.size : Int) < 0) := by omega
    obtain ⟨cs1, n1, c1, _, c2⟩ := cpy_any (st := [Blk.cells 0 true 24 t.c, .cells 0 true 24 [.nils, .int .i64 0, .int .i64 0], .cells 0 true 5 (rep [.int .u8 0] s.size)]) (id := 2) (n := s.size) (s := (t.at (k : Int)).data) rfl (rep_len1 _)
    obtain ⟨cs2, n2, c3, c5, c4⟩ := cpy_any (st := [Blk.cells 0 true 24 t.c, .cells 0 true 24 [.nils, .int .i64 0, .int .i64 0], .cells 0 true 5 cs1]) (id := 2) (n := s.size) (s := s) rfl c1
    have hc2 := c5 rfl
    have c7 : ∀ g : Store, cellsOf (Blk.cells 0 true 24 [.osl 3 1 6 0 t.nodes.length, .int .i64 t.mx, .int .i64 t.mb] :: .cells 0 true 24 [.nils, .int .i64 0, .int .i64 0] :: .cells 0 true 5 cs2 :: g) 1 (.osl 2 0 1 0 s.size) = some (ofBytes s.data.toList) := fun g => by
      simp only [cellsOf, List.getElem?_cons_succ, List.getElem?_cons_zero, Nat.zero_add, Nat.mul_one, c3, Nat.le_refl, and_self, if_true, List.drop_zero]
      rw [← hc2, List.take_of_length_le (by omega)]
    have b1 : (0 : Int) ≤ k := by omega
    have b2 : (k : Int) < (t.nodes.length : Nat) := by omega
    have s3 : (rowsI t.nodes).set (k * 6 + 3) (.str s) = rowsI (setD t.nodes k s) := rowsI_set t.nodes k 3 _ _ hkl (by omega) rfl
    have l3 : (k * 6 + 3 + 1 ≤ (rowsI t.nodes).length) = True := by rw [rowsI_length]; simp; omega
    have hbb : (⟨s.data.toList.toArray⟩ : ByteArray) = s := by simp
    simp -dsimp only [↓R0, RA, simprocAttr, m1, m2, m3, m3b, Int.toNat_natCast, c2, c4, min_i, m4, m5, hCall_d (d125 hT), Tr.od]
    simp -dsimp only [↓R0, RA, simprocAttr, c7, bytesOf_of, osl_ix b1 b2, Int.toNat_natCast, hbb, s3, l3, ld24]
    obtain ⟨t', f1, f2⟩ := fill_frz hT (st := [Blk.cells 0 true 24 [.osl 3 1 6 0 t.nodes.length, .int .i64 t.mx, .int .i64 t.mb], .cells 0 true 24 [.osl 3 1 6 0 t.nodes.length, .int .i64 t.mx, .int .i64 t.mb], .cells 0 true 5 cs2, .cells 1 true 38 (rowsI (setD t.nodes k s))]) (n := 3) (id := 3) (ver := 1) hkl rfl
    refine ⟨.tup [t'.d, .int .i64 0], ?_, .inr ⟨t', rfl, by omega, f2⟩⟩
    unfold fz
    have e1 : ∀ (st : Store) (a : IntKind) (b : Int), fz st 7 (.int a b) = some (.int a b) := fun st a b => fz_0 (by simp only [refs])
    simp only [refs, refsL, List.append_nil, List.isEmpty_cons, Bool.false_eq_true, if_false, mapO, f1, e1]
theorem Filled.refl {t : Tr} (hT : T t) {k : Nat} {s : ByteArray} (h : (t.at (k : Int)).data = s) : Filled t t k s := by
  refine ⟨⟨hT.ok, rfl, rfl, rfl⟩, ?_⟩
  intro j hj
  split
  · rename_i e; subst e; subst h; rfl
  · rfl
theorem s97 {t : Tr} (hT : T t) {k : Nat} (hk : t.has (k : Int)) (hf : (t.at (k : Int)).kind = 1) : ∃ d, Gives C TP 97 [t.d, .int .i64 k, .int .i64 0] d ∧ ∃ t', d = .tup [t'.d, .int .i64 0] ∧ Filled t t' k emS := by
  refine frz_ex rfl rfl (by simp only [refsL, refs, Tr.d, Tr.c, hT.ok.ref, List.append_nil]) (body_h b97 (by show 3 ≤ 32; decide) ?_)
  obtain ⟨d, g1, g2⟩ := s141 hT (s := emS) hk (by decide)
  have e0 : ((emS.size : Nat) : Int) = 0 := rfl
  have hn : noFile 1 = 0 := rfl
  have hle := Tr.size_le (t := t) hk
  have hby := hT.fit.bytes
  rcases g2 with ⟨_, hbad⟩ | ⟨t', rfl, _, hF⟩
  · rw [e0] at hbad; omega
  · rw [e0] at g1
    have gg := s140 hT hk
    rw [hf, hn] at gg
    simp -dsimp only [↓R0, RA, simprocAttr, hCall_g gg, hCall_g g1, ld24]
    refine ⟨_, fz_0 (by simp only [refs, refsL, hF.like.ok.ref, List.append_nil]), t', rfl, hF⟩
theorem max_i {P : Program} {st : Store} {ts : List TypeId} {a b : Int} : builtinD P st .max ts [.int .i64 a, .int .i64 b] = some (.int .i64 (if a < b then b else a), st) := by
  cases ts <;> rfl
theorem s98 {t : Tr} (hT : T t) {k : Nat} {s : ByteArray} (hk : t.has (k : Int)) (hf : (t.at (k : Int)).kind = 1) (hs : s.size ≤ 65536) (ho : (t.at (k : Int)).data.size ≤ s.size) :
    ∃ d, Gives C TP 98 [t.d, .int .i64 k, .int .i64 0, .str s] d ∧ (d = .tup [t.d, .int .i64 28] ∨ ∃ t', d = .tup [t'.d, .int .i64 0] ∧ t.sum - (t.at (k : Int)).data.size + s.size ≤ t.mb ∧ Filled t t' k s) := by
  refine frz_ex rfl rfl (by simp only [refsL, refs, Tr.d, Tr.c, hT.ok.ref, List.append_nil]) (body_h b98 (by show 4 ≤ 57; decide) ?_)
  have gg := s140 hT hk
  have hn : noFile 1 = 0 := rfl
  rw [hf, hn] at gg
  have hby := hT.fit.bytes
  simp -dsimp only [↓R0, RA, simprocAttr, hCall_g gg]
  apply hIf_d <;> intro h1
  · simp -dsimp only [↓R0, RA, simprocAttr, decide_eq_true h1, ld24]
    refine ⟨_, fz_0 (by simp only [refs, refsL, hT.ok.ref, List.append_nil]), .inr ⟨t, rfl, ?_, Filled.refl hT ?_⟩⟩
    · subst h1
      have : (⟨#[]⟩ : ByteArray).size = 0 := rfl
      omega
    · subst h1
      have : (⟨#[]⟩ : ByteArray).size = 0 := rfl
      exact ByteArray.size_eq_zero_iff.1 (by omega)
  · have c0 : IntKind.i64.wrap 65536 = 65536 := by rw [w64] <;> omega
    have c1 : ¬ ((65536 : Int) < s.size) := by omega
    have w1 : IntKind.i64.wrap ((0 : Int) + s.size) = s.size := by rw [w64] <;> omega
    have c2 : (if ((t.at (k : Int)).data.size : Int) < s.size then (s.size : Int) else ((t.at (k : Int)).data.size : Int)) = s.size := by split <;> omega
    obtain ⟨d, g1, g2⟩ := s141 hT (s := s) hk hs
    simp -dsimp only [↓R0, RA, simprocAttr, decide_eq_false h1, c0, c1, Tr.ixh hT.ok hk, Tr.c3 hk, w1, max_i, c2, hCall_g g1]
    rcases g2 with ⟨rfl, _⟩ | ⟨t', rfl, h2, hF⟩
    · simp -dsimp only [↓R0, RA, simprocAttr, ld24]
      exact ⟨_, fz_0 (by simp only [refs, refsL, hT.ok.ref, List.append_nil]), .inl rfl⟩
    · simp -dsimp only [↓R0, RA, simprocAttr, ld24]
      exact ⟨_, fz_0 (by simp only [refs, refsL, hF.like.ok.ref, List.append_nil]), .inr ⟨t', rfl, h2, hF⟩⟩
end
end Go.Mm
end
