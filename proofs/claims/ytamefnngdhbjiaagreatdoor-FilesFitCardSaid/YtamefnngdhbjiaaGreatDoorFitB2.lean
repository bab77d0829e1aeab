/- A part of the proof of FilesFitCardSaid: N9, N10, N11, S31, S32, S33, S34. -/
import Derived.Test.YtamefnngdhbjiaaGreatDoorFitB0
import Derived.Test.YtamefnngdhbjiaaGreatDoorFitB1
set_option linter.all false
section
namespace Go.Mm
variable [Globs]
section
theorem mem_ins {l : List Ent} {i : Nat} {e x : Ent} : x ∈ insE l i e ↔ x = e ∨ x ∈ l := by
  unfold insE
  constructor
  · intro h
    rcases List.mem_append.1 h with h | h
    · exact .inr (List.mem_of_mem_take h)
    · rcases List.mem_cons.1 h with h | h
      · exact .inl h
      · exact .inr (List.mem_of_mem_drop h)
  · rintro (rfl | h)
    · exact List.mem_append.2 (.inr (List.mem_cons_self ..))
    · rw [← List.take_append_drop i l] at h
      rcases List.mem_append.1 h with h | h
      · exact List.mem_append.2 (.inl h)
      · exact List.mem_append.2 (.inr (List.mem_cons_of_mem _ h))
theorem cnt_ins {l : List Ent} {i k m : Nat} {nm : ByteArray} : cntE (insE l i ⟨nm, m⟩) k = cntE l k + (if m = k then 1 else 0) := by
  unfold cntE insE
  conv => rhs; rw [← List.take_append_drop i l]
  rw [List.countP_append, List.countP_append, List.countP_cons]
  by_cases h : m = k
  · subst h; simp; omega
  · have : ¬ ((m : Int) = (k : Int)) := by omega
    simp [h, this]
theorem len_ins {l : List Ent} {i : Nat} {e : Ent} (h : i ≤ l.length) : (insE l i e).length = l.length + 1 := by
  rw [insE, List.length_append, List.length_cons, List.length_take, List.length_drop]; omega
theorem sorted_ins {l : List Ent} {i : Nat} {nm : ByteArray} {k : Int} (hs : Sorted l) (hi : i ≤ l.length) (lo : ∀ j (h : j < l.length), j < i → sLt l[j].name nm = true) (hj : ∀ j (h : j < l.length), i ≤ j → sLt l[j].name nm = false) (hno : ∀ e ∈ l, e.name ≠ nm) : Sorted (insE l i ⟨nm, k⟩) := by
  unfold Sorted insE
  rw [List.pairwise_append]
  refine ⟨hs.sublist (List.take_sublist _ _), ?_, ?_⟩
  · rw [List.pairwise_cons]
    refine ⟨?_, hs.sublist (List.drop_sublist _ _)⟩
    intro x hx
    obtain ⟨j, hjl, rfl⟩ := List.getElem_of_mem hx
    rw [List.length_drop] at hjl
    rw [List.getElem_drop]
    have h1 := hj (i + j) (by omega) (by omega)
    rcases sLt_tot l[i + j].name nm with h | h | h
    · rw [h] at h1; cases h1
    · exact absurd h (hno _ (List.getElem_mem _))
    · exact h
  · intro a ha b hb
    obtain ⟨j, hjl, rfl⟩ := List.getElem_of_mem ha
    rw [List.length_take] at hjl
    rw [List.getElem_take]
    have h1 := lo j (by omega) (by omega)
    rcases List.mem_cons.1 hb with rfl | hb
    · exact h1
    · obtain ⟨m, hm, rfl⟩ := List.getElem_of_mem hb
      rw [List.length_drop] at hm
      rw [List.getElem_drop]
      exact hs.lt (by omega) (by omega)
theorem mem_rem {l : List Ent} {nm : ByteArray} {x : Ent} : x ∈ remE l nm ↔ x ∈ l ∧ x.name ≠ nm := by
  unfold remE
  rw [List.mem_filter]
  simp
theorem cnt_rem {l : List Ent} {nm : ByteArray} {k j : Nat} (hs : Sorted l) (h : ⟨nm, (k : Int)⟩ ∈ l) : (cntE (remE l nm) j : Int) = cntE l j + (if j = k then -1 else 0) := by
  induction l with
  | nil => cases h
  | cons e l ih =>
    have hs' : Sorted l := List.Pairwise.of_cons hs
    have hall := (List.pairwise_cons.1 hs).1
    unfold remE
    rw [List.filter_cons]
    by_cases he : e.name = nm
    · have hek : e = ⟨nm, (k : Int)⟩ := by
        rcases List.mem_cons.1 h with h | h
        · exact h.symm
        · have := hall _ h
          rw [he, sLt_irr] at this; cases this
      have hrest : l.filter (fun e => decide (e.name ≠ nm)) = l := by
        rw [List.filter_eq_self]
        intro x hx
        have := hall _ hx
        rw [he] at this
        simp only [ne_eq, decide_not, Bool.not_eq_true', decide_eq_false_iff_not]
        intro hc
        rw [hc, sLt_irr] at this; cases this
      rw [if_neg (by simp [he]), hrest]
      unfold cntE
      rw [List.countP_cons]
      subst hek
      by_cases hjk : j = k
      · subst hjk; simp; omega
      · have : ¬ ((k : Int) = (j : Int)) := by omega
        simp [hjk, this]
    · have hmem : ⟨nm, (k : Int)⟩ ∈ l := by
        rcases List.mem_cons.1 h with h | h
        · rw [← h] at he; exact absurd rfl he
        · exact h
      have ih' := ih hs' hmem
      rw [if_pos (by simp [he])]
      unfold cntE remE at ih'
      unfold cntE
      rw [List.countP_cons, List.countP_cons]
      omega
theorem cnt_memE {l : List Ent} {e : Ent} {k : Nat} (h : e ∈ l) (he : e.ino = k) : 0 < cntE l k := by
  unfold cntE
  rw [List.countP_pos_iff]
  exact ⟨_, h, by simp [he]⟩
theorem cnt_ex {l : List Ent} {k : Nat} (h : 0 < cntE l k) : ∃ e ∈ l, e.ino = (k : Int) := by
  unfold cntE at h
  rw [List.countP_pos_iff] at h
  obtain ⟨e, h1, h2⟩ := h
  exact ⟨e, h1, by simpa using h2⟩
section
variable {n : Nat} {mx mb : Int} {V W : Nat → View}
theorem FitV.kids_nil (h : FitV n mx mb V) {j : Nat} (hj : j < n) (hk : (V j).kind ≠ 2) : (V j).kids = [] := by
  have ha := (h.one j hj).1
  rcases ha.kind with q | q | q | q
  · exact (ha.free q).2.2.2.1
  · exact (ha.file q).1
  · exact absurd q hk
  · exact (ha.link q).2.1
theorem FitV.ent (h : FitV n mx mb V) {i j : Nat} {e : Ent} (hi : i < n) (he : e ∈ (V i).kids) (hj : e.ino = j) : (V i).kind = 2 ∧ j < n ∧ (V j).kind ≠ 0 ∧ ((V j).kind = 2 → j ≠ 0 ∧ (V j).up = i) := by
  have h2 : (V i).kind = 2 := by
    rcases Classical.em ((V i).kind = 2) with q | q
    · exact q
    · rw [h.kids_nil hi q] at he; cases he
  obtain ⟨m, h3, h4, h5, h6⟩ := (h.dirs i hi h2).2.2.live e he
  have : m = j := by omega
  subst this
  exact ⟨h2, h3, h5, h6⟩
theorem FitV.cnt_pos (h : FitV n mx mb V) {i j : Nat} {e : Ent} (hi : i < n) (he : e ∈ (V i).kids) (hj : e.ino = j) : 0 < cntV n V j :=
  sumN_pos hi (cnt_memE he hj)
theorem FitV.dir_ent (h : FitV n mx mb V) {j : Nat} (hj : j < n) (hk : (V j).kind = 2) (h0 : j ≠ 0) : ∃ i, i < n ∧ (V i).kind = 2 ∧ (V j).up = (i : Int) ∧ ∃ e ∈ (V i).kids, e.ino = (j : Int) := by
  have h1 := h.once j hj hk (by omega)
  obtain ⟨i, hi, hc⟩ := sumN_ex (n := n) (f := fun i => cntE (V i).kids j) (by unfold cntV at h1; omega)
  obtain ⟨e, he, hej⟩ := cnt_ex hc
  obtain ⟨a, b, c, d⟩ := h.ent hi he hej
  exact ⟨i, hi, a, (d hk).2, e, he, hej⟩
theorem Rt.mono {j : Nat} (hm : ∀ m, m < n → (V m).kind = 2 → (W m).kind = 2 ∧ (W m).up = (V m).up) (hj : j < n) (hk : (V j).kind = 2) (h : Rt n V j) : Rt n W j := by
  induction h with
  | root => exact .root
  | @up j m a b c d ih => exact .up (by rw [(hm j hj hk).2]; exact a) b (hm m b c).1 (ih b c)
theorem fit_plus (h : FitV n mx mb V) {d k i : Nat} {nm : ByteArray} {y : View} (hd : d < n) (hk : k < n) (hdd : (V d).kind = 2) (hkd : k ≠ d) (hnm : NameOk nm) (hno : ∀ e ∈ (V d).kids, e.name ≠ nm) (hroom : (V d).kids.length < 1024)
    (hi : i ≤ (V d).kids.length) (lo : ∀ j (h : j < (V d).kids.length), j < i → sLt (V d).kids[j].name nm = true) (hhi : ∀ j (h : j < (V d).kids.length), i ≤ j → sLt (V d).kids[j].name nm = false)
    (hV : ∀ j, j < n → W j = if j = k then y else if j = d then { V j with kids := insE (V d).kids i ⟨nm, k⟩ } else V j)
    (hyk : y.kind ≠ 0) (hya : AloneV y) (hyd : y.data.size ≤ 65536) (hykids : y.kids = []) (hyl : y.links = (V k).links + 1)
    (hnew : ((V k).kind = 0 ∧ (y.kind = 2 → y.up = d)) ∨ ((V k).kind ≠ 0 ∧ (V k).kind ≠ 2 ∧ y.kind = (V k).kind)) (hby : (sumN n (fun j => (V j).data.size) : Int) + y.data.size - (V k).data.size ≤ mb) : FitV n mx mb W := by
  have hVk : (V k).kind ≠ 2 := by
    rcases hnew with ⟨a, _⟩ | ⟨_, a, _⟩
    · rw [a]; decide
    · exact a
  have hk0 : k ≠ 0 := by rintro rfl; exact hVk h.root.1
  have wk : W k = y := by rw [hV k hk, if_pos rfl]
  have wd : W d = { V d with kids := insE (V d).kids i ⟨nm, k⟩ } := by rw [hV d hd, if_neg (fun e => hkd e.symm), if_pos rfl]
  have wo : ∀ j, j < n → j ≠ k → j ≠ d → W j = V j := fun j hj a b => by rw [hV j hj, if_neg a, if_neg b]
  have kk : ∀ j, j < n → j ≠ k → (W j).kind = (V j).kind ∧ (W j).up = (V j).up ∧ (W j).links = (V j).links ∧ (W j).data = (V j).data ∧ (W j).mode = (V j).mode := fun j hj a => by
    by_cases b : j = d
    · subst b; rw [wd]; exact ⟨rfl, rfl, rfl, rfl, rfl⟩
    · rw [wo j hj a b]; exact ⟨rfl, rfl, rfl, rfl, rfl⟩
  have hcnt : ∀ j, (cntV n W j : Int) = cntV n V j + (if j = k then 1 else 0) := by
    intro j
    have := sumN_upd (n := n) (a := d) (b := d) (f := fun i => cntE (V i).kids j) (g := fun i => cntE (W i).kids j) (x := if j = k then 1 else 0) (y := 0) hd hd (by
      intro m hm
      by_cases e1 : m = k
      · subst e1
        rw [wk, hykids, h.kids_nil hm hVk, if_neg hkd, if_neg hkd]; rfl
      · by_cases e2 : m = d
        · subst e2
          rw [wd, if_pos rfl, if_pos rfl]
          simp only []
          rw [cnt_ins]
          by_cases e3 : k = j
          · rw [if_pos e3, if_pos e3.symm]; omega
          · rw [if_neg e3, if_neg (fun x => e3 x.symm)]; omega
        · rw [wo m hm e1 e2, if_neg e2, if_neg e2]; omega)
    unfold cntV
    omega
  have hlive : ∀ j l, KidsV n V j l → KidsV n W j l := by
    intro j l q
    refine ⟨q.sorted, q.name, fun e he => ?_⟩
    obtain ⟨m, a, b, c, c2⟩ := q.live e he
    refine ⟨m, a, b, ?_, ?_⟩
    · by_cases e1 : m = k
      · subst e1; rw [wk]; exact hyk
      · rw [(kk m a e1).1]; exact c
    · intro h2
      by_cases e1 : m = k
      · subst e1
        rw [wk] at h2
        rcases hnew with ⟨a1, _⟩ | ⟨_, a2, a3⟩
        · exact absurd a1 c
        · rw [a3] at h2; exact absurd h2 a2
      · rw [(kk m a e1).1] at h2
        rw [(kk m a e1).2.1]
        exact c2 h2
  refine ⟨h.n1, h.nmx, h.mx, h.mb0, h.mb1, ?_, ?_, ?_, ?_, ?_, ?_, ?_, ?_⟩
  · obtain ⟨a, b, _⟩ := kk 0 (by have := h.n1; omega) (fun e => hk0 e.symm)
    rw [a, b]; exact h.root
  · intro j hj
    by_cases e1 : j = k
    · subst e1; rw [wk]; exact ⟨hya, hyd⟩
    · by_cases e2 : j = d
      · subst e2
        rw [wd]
        obtain ⟨a, b⟩ := h.one j hj
        exact ⟨⟨fun q => absurd (hdd.symm.trans q) (by decide), a.mode, fun q => absurd (hdd.symm.trans q) (by decide), fun q => absurd (hdd.symm.trans q) (by decide), a.dir, a.kind⟩, b⟩
      · rw [wo j hj e1 e2]; exact h.one j hj
  · intro j hj h2
    by_cases e1 : j = k
    · subst e1
      rw [wk] at h2 ⊢
      rcases hnew with ⟨_, a⟩ | ⟨_, a, b⟩
      · rw [hykids]
        exact ⟨⟨d, hd, a h2⟩, by simp, ⟨List.Pairwise.nil, fun e he => (by cases he), fun e he => (by cases he)⟩⟩
      · rw [b] at h2; exact absurd h2 a
    · rw [(kk j hj e1).1] at h2
      obtain ⟨⟨u, hu, hu2⟩, b, c⟩ := h.dirs j hj h2
      refine ⟨⟨u, hu, by rw [(kk j hj e1).2.1]; exact hu2⟩, ?_⟩
      by_cases e2 : j = d
      · subst e2
        rw [wd]
        refine ⟨by simp only []; rw [len_ins hi]; omega, ?_⟩
        have c' := hlive j _ c
        refine ⟨sorted_ins c.sorted hi lo hhi hno, fun e he => ?_, fun e he => ?_⟩
        · rcases mem_ins.1 he with rfl | he
          · exact hnm
          · exact c.name e he
        · rcases mem_ins.1 he with rfl | he
          · refine ⟨k, hk, rfl, by rw [wk]; exact hyk, fun h2 => ⟨hk0, ?_⟩⟩
            rw [wk] at h2 ⊢
            rcases hnew with ⟨_, a⟩ | ⟨_, a, b⟩
            · exact a h2
            · rw [b] at h2; exact absurd h2 a
          · exact c'.live e he
      · rw [wo j hj e1 e2]
        exact ⟨b, hlive j _ c⟩
  · intro j hj
    have := hcnt j
    by_cases e1 : j = k
    · subst e1
      rw [wk, hyl, h.links j hj]
      rw [if_pos rfl] at this; omega
    · rw [(kk j hj e1).2.2.1, h.links j hj]
      rw [if_neg e1] at this; omega
  · intro j hj h2 h0
    have := hcnt j
    by_cases e1 : j = k
    · subst e1
      rw [if_pos rfl] at this; omega
    · rw [(kk j hj e1).1] at h2
      have := h.named j hj h2 h0
      rw [if_neg e1] at *; omega
  · intro j hj h2 h0
    have := hcnt j
    by_cases e1 : j = k
    · subst e1
      rw [wk] at h2
      rcases hnew with ⟨a, _⟩ | ⟨_, a, b⟩
      · have hl := h.links j hj
        have := (h.one j hj).1.free a
        rw [if_pos rfl] at *
        omega
      · rw [b] at h2; exact absurd h2 a
    · rw [(kk j hj e1).1] at h2
      have := h.once j hj h2 h0
      rw [if_neg e1] at *; omega
  · have hmono : ∀ m, m < n → (V m).kind = 2 → (W m).kind = 2 ∧ (W m).up = (V m).up := by
      intro m hm h2
      have e1 : m ≠ k := by rintro rfl; exact hVk h2
      exact ⟨by rw [(kk m hm e1).1]; exact h2, (kk m hm e1).2.1⟩
    intro j hj h2
    by_cases e1 : j = k
    · subst e1
      rw [wk] at h2
      rcases hnew with ⟨_, a⟩ | ⟨_, a, b⟩
      · refine .up (by rw [wk]; exact a h2) hd (by rw [wd]; exact hdd) (Rt.mono hmono hd hdd (h.rooted d hd hdd))
      · rw [b] at h2; exact absurd h2 a
    · rw [(kk j hj e1).1] at h2
      exact Rt.mono hmono hj h2 (h.rooted j hj h2)
  · have := sumN_upd (n := n) (a := k) (b := k) (f := fun j => (V j).data.size) (g := fun j => (W j).data.size) (x := (y.data.size : Int) - (V k).data.size) (y := 0) hk hk (by
      intro m hm
      by_cases e1 : m = k
      · subst e1; rw [wk, if_pos rfl, if_pos rfl]; omega
      · rw [(kk m hm e1).2.2.2.1, if_neg e1, if_neg e1]; omega)
    omega
end
end
section
section
variable {n : Nat} {mx mb : Int} {V W : Nat → View}
theorem FitV.up_not (h : FitV n mx mb V) {j k m : Nat} (hj : j < n) (h2 : (V j).kind = 2) (h0 : j ≠ 0) (hk : (V k).kids = []) (hu : (V j).up = (m : Int)) : m ≠ k := by
  obtain ⟨i, hi, _, hup, e, he, _⟩ := h.dir_ent hj h2 h0
  rintro rfl
  have : i = m := by omega
  subst this
  rw [hk] at he; cases he
theorem Rt.avoid (h : FitV n mx mb V) {k : Nat} (hk : (V k).kids = []) (hm : ∀ m, m < n → m ≠ k → (V m).kind = 2 → (W m).kind = 2 ∧ (W m).up = (V m).up) {j : Nat} (hj : j < n) (hjk : j ≠ k) (h2 : (V j).kind = 2) (hr : Rt n V j) : Rt n W j := by
  induction hr with
  | root => exact .root
  | @up j m a b c d ih =>
    by_cases h0 : j = 0
    · subst h0; exact .root
    · have hne := h.up_not hj h2 h0 hk a
      exact .up (by rw [(hm j hj hjk h2).2]; exact a) b (hm m b hne c).1 (ih b hne c)
theorem fit_minus (h : FitV n mx mb V) {d k : Nat} {nm : ByteArray} (hd : d < n) (hk : k < n) (hdd : (V d).kind = 2) (hkd : k ≠ d) (hent : ⟨nm, (k : Int)⟩ ∈ (V d).kids) (hke : (V k).kids = [])
    (hV : ∀ j, j < n → W j = if j = k then (if (V k).links = 1 then Ino.free.v else { V j with links := (V j).links - 1 }) else if j = d then { V j with kids := remE (V d).kids nm } else V j) : FitV n mx mb W := by
  obtain ⟨_, _, hklive, hkdir⟩ := h.ent hd hent rfl
  have hk0 : k ≠ 0 := by
    rintro rfl
    exact (hkdir h.root.1).1 rfl
  have hds := (h.dirs d hd hdd).2.2.sorted
  have wk : W k = (if (V k).links = 1 then Ino.free.v else { V k with links := (V k).links - 1 }) := by rw [hV k hk, if_pos rfl]
  have wd : W d = { V d with kids := remE (V d).kids nm } := by rw [hV d hd, if_neg (fun e => hkd e.symm), if_pos rfl]
  have wo : ∀ j, j < n → j ≠ k → j ≠ d → W j = V j := fun j hj a b => by rw [hV j hj, if_neg a, if_neg b]
  have kk : ∀ j, j < n → j ≠ k → (W j).kind = (V j).kind ∧ (W j).up = (V j).up ∧ (W j).links = (V j).links ∧ (W j).data = (V j).data := fun j hj a => by
    by_cases b : j = d
    · subst b; rw [wd]; exact ⟨rfl, rfl, rfl, rfl⟩
    · rw [wo j hj a b]; exact ⟨rfl, rfl, rfl, rfl⟩
  have hwk : (W k).kids = [] := by
    rw [wk]
    split
    · rfl
    · exact hke
  have hcnt : ∀ j, (cntV n W j : Int) = cntV n V j + (if j = k then -1 else 0) := by
    intro j
    have := sumN_upd (n := n) (a := d) (b := d) (f := fun i => cntE (V i).kids j) (g := fun i => cntE (W i).kids j) (x := if j = k then -1 else 0) (y := 0) hd hd (by
      intro m hm
      by_cases e1 : m = k
      · subst e1
        rw [hwk, hke, if_neg hkd, if_neg hkd]; rfl
      · by_cases e2 : m = d
        · subst e2
          rw [wd, if_pos rfl, if_pos rfl]
          simp only []
          rw [cnt_rem hds hent]; omega
        · rw [wo m hm e1 e2, if_neg e2, if_neg e2]; omega)
    unfold cntV
    omega
  have hlk := h.links k hk
  have hpk := h.cnt_pos hd hent rfl
  have hsub : ∀ i, i < n → ∀ e ∈ (W i).kids, e ∈ (V i).kids := by
    intro i hi e he
    by_cases e1 : i = k
    · subst e1; rw [hwk] at he; cases he
    · by_cases e2 : i = d
      · subst e2; rw [wd] at he; exact (mem_rem.1 he).1
      · rw [wo i hi e1 e2] at he; exact he
  have hlive : ∀ i, i < n → ∀ e ∈ (W i).kids, ∃ m : Nat, m < n ∧ e.ino = m ∧ (W m).kind ≠ 0 ∧ ((W m).kind = 2 → m ≠ 0 ∧ (W m).up = i) := by
    intro i hi e he
    have he' := hsub i hi e he
    have h2 : (V i).kind = 2 := by
      rcases Classical.em ((V i).kind = 2) with q | q
      · exact q
      · rw [h.kids_nil hi q] at he'; cases he'
    obtain ⟨m, a, b, c, c2⟩ := (h.dirs i hi h2).2.2.live e he'
    refine ⟨m, a, b, ?_⟩
    by_cases e1 : m = k
    · subst e1
      have hp : 0 < cntV n W m := sumN_pos hi (cnt_memE he b)
      have := hcnt m
      rw [if_pos rfl] at this
      rw [wk, if_neg (by omega)]
      exact ⟨c, c2⟩
    · obtain ⟨q1, q2, _⟩ := kk m a e1
      rw [q1, q2]
      exact ⟨c, c2⟩
  refine ⟨h.n1, h.nmx, h.mx, h.mb0, h.mb1, ?_, ?_, ?_, ?_, ?_, ?_, ?_, ?_⟩
  · obtain ⟨a, b, _⟩ := kk 0 (by have := h.n1; omega) (fun e => hk0 e.symm)
    rw [a, b]; exact h.root
  · intro j hj
    by_cases e1 : j = k
    · subst e1
      rw [wk]
      split
      · exact ⟨⟨fun _ => ⟨rfl, rfl, rfl, rfl, rfl⟩, fun q => absurd rfl q, fun q => (by cases q), fun q => (by cases q), fun q => rfl, .inl rfl⟩, Nat.zero_le _⟩
      · obtain ⟨a, b⟩ := h.one j hj
        exact ⟨⟨fun q => absurd q hklive, a.mode, a.file, a.link, a.dir, a.kind⟩, b⟩
    · by_cases e2 : j = d
      · subst e2
        rw [wd]
        obtain ⟨a, b⟩ := h.one j hj
        exact ⟨⟨fun q => absurd (hdd.symm.trans q) (by decide), a.mode, fun q => absurd (hdd.symm.trans q) (by decide), fun q => absurd (hdd.symm.trans q) (by decide), a.dir, a.kind⟩, b⟩
      · rw [wo j hj e1 e2]; exact h.one j hj
  · intro j hj h2
    have hkids : Sorted (W j).kids ∧ (∀ e ∈ (W j).kids, NameOk e.name) ∧ (W j).kids.length ≤ 1024 := by
      by_cases e1 : j = k
      · subst e1; rw [hwk]; exact ⟨List.Pairwise.nil, fun e he => (by cases he), by simp⟩
      · rw [(kk j hj e1).1] at h2
        obtain ⟨_, b, c⟩ := h.dirs j hj h2
        by_cases e2 : j = d
        · subst e2
          rw [wd]
          exact ⟨c.sorted.rem, fun e he => c.name e (mem_rem.1 he).1, Nat.le_trans remE_le b⟩
        · rw [wo j hj e1 e2]; exact ⟨c.sorted, c.name, b⟩
    have hup : ∃ m : Nat, m < n ∧ (W j).up = m := by
      by_cases e1 : j = k
      · subst e1
        rw [wk] at h2 ⊢
        by_cases e3 : (V j).links = 1
        · rw [if_pos e3] at h2; cases h2
        · rw [if_neg e3] at h2 ⊢
          exact (h.dirs j hj h2).1
      · rw [(kk j hj e1).1] at h2
        rw [(kk j hj e1).2.1]
        exact (h.dirs j hj h2).1
    exact ⟨hup, hkids.2.2, ⟨hkids.1, hkids.2.1, hlive j hj⟩⟩
  · intro j hj
    have := hcnt j
    by_cases e1 : j = k
    · subst e1
      rw [if_pos rfl] at this
      rw [wk]
      by_cases e3 : (V j).links = 1
      · rw [if_pos e3]
        have : Ino.free.v.links = 0 := rfl
        omega
      · rw [if_neg e3]
        simp only []
        omega
    · rw [(kk j hj e1).2.2.1, h.links j hj]
      rw [if_neg e1] at this; omega
  · intro j hj h2 h0
    have := hcnt j
    by_cases e1 : j = k
    · subst e1
      rw [if_pos rfl] at this
      rw [wk] at h2
      by_cases e3 : (V j).links = 1
      · rw [if_pos e3] at h2; exact absurd rfl h2
      · omega
    · rw [(kk j hj e1).1] at h2
      have := h.named j hj h2 h0
      rw [if_neg e1] at *; omega
  · intro j hj h2 h0
    have := hcnt j
    by_cases e1 : j = k
    · subst e1
      rw [wk] at h2
      by_cases e3 : (V j).links = 1
      · rw [if_pos e3] at h2; cases h2
      · rw [if_neg e3] at h2
        have := h.once j hj h2 h0
        omega
    · rw [(kk j hj e1).1] at h2
      have := h.once j hj h2 h0
      rw [if_neg e1] at *; omega
  · intro j hj h2
    have hmono : ∀ m, m < n → m ≠ k → (V m).kind = 2 → (W m).kind = 2 ∧ (W m).up = (V m).up := by
      intro m hm e1 h2
      exact ⟨by rw [(kk m hm e1).1]; exact h2, (kk m hm e1).2.1⟩
    by_cases e1 : j = k
    · subst e1
      rw [wk] at h2
      by_cases e3 : (V j).links = 1
      · rw [if_pos e3] at h2; cases h2
      · rw [if_neg e3] at h2
        have := h.once j hj h2 (by omega)
        omega
    · rw [(kk j hj e1).1] at h2
      exact Rt.avoid h hke hmono hj e1 h2 (h.rooted j hj h2)
  · have hz : ((W k).data.size : Int) ≤ (V k).data.size := by
      rw [wk]
      split
      · have : Ino.free.v.data.size = 0 := rfl
        omega
      · exact Int.le_refl _
    have := sumN_upd (n := n) (a := k) (b := k) (f := fun j => (V j).data.size) (g := fun j => (W j).data.size) (x := ((W k).data.size : Int) - (V k).data.size) (y := 0) hk hk (by
      intro m hm
      by_cases e1 : m = k
      · subst e1; rw [if_pos rfl, if_pos rfl]; omega
      · rw [(kk m hm e1).2.2.2, if_neg e1, if_neg e1]; omega)
    have := h.bytes
    omega
theorem fit_fill (h : FitV n mx mb V) {k : Nat} {s : ByteArray} (hk : k < n) (hf : (V k).kind = 1) (hs : s.size ≤ 65536) (hV : ∀ j, j < n → W j = if j = k then { V j with data := s } else V j)
    (hby : (sumN n (fun j => (V j).data.size) : Int) + s.size - (V k).data.size ≤ mb) : FitV n mx mb W := by
  have kk : ∀ j, j < n → (W j).kind = (V j).kind ∧ (W j).up = (V j).up ∧ (W j).links = (V j).links ∧ (W j).kids = (V j).kids ∧ (W j).mode = (V j).mode := fun j hj => by
    rw [hV j hj]
    split <;> exact ⟨rfl, rfl, rfl, rfl, rfl⟩
  have wo : ∀ j, j < n → j ≠ k → W j = V j := fun j hj a => by rw [hV j hj, if_neg a]
  have wk : W k = { V k with data := s } := by rw [hV k hk, if_pos rfl]
  have hcnt : ∀ j, cntV n W j = cntV n V j := by
    intro j
    unfold cntV sumN
    congr 1
    apply List.map_congr_left
    intro i hi
    rw [(kk i (List.mem_range.1 hi)).2.2.2.1]
  refine ⟨h.n1, h.nmx, h.mx, h.mb0, h.mb1, ?_, ?_, ?_, ?_, ?_, ?_, ?_, ?_⟩
  · obtain ⟨a, b, _⟩ := kk 0 (by have := h.n1; omega)
    rw [a, b]; exact h.root
  · intro j hj
    by_cases e1 : j = k
    · subst e1
      rw [wk]
      obtain ⟨a, b⟩ := h.one j hj
      exact ⟨⟨fun q => absurd (hf.symm.trans q) (by decide), a.mode, a.file, fun q => absurd (hf.symm.trans q) (by decide), fun q => absurd (hf.symm.trans q) (by decide), a.kind⟩, hs⟩
    · rw [wo j hj e1]; exact h.one j hj
  · intro j hj h2
    obtain ⟨q1, q2, q3, q4, _⟩ := kk j hj
    rw [q1] at h2
    obtain ⟨a, b, c⟩ := h.dirs j hj h2
    rw [q2, q4]
    refine ⟨a, b, ⟨c.sorted, c.name, fun e he => ?_⟩⟩
    obtain ⟨m, a, b, c, d⟩ := c.live e he
    refine ⟨m, a, b, ?_⟩
    rw [(kk m a).1, (kk m a).2.1]
    exact ⟨c, d⟩
  · intro j hj; rw [hcnt, (kk j hj).2.2.1]; exact h.links j hj
  · intro j hj h2 h0; rw [hcnt]; rw [(kk j hj).1] at h2; exact h.named j hj h2 h0
  · intro j hj h2 h0; rw [hcnt]; rw [(kk j hj).1] at h2; exact h.once j hj h2 h0
  · intro j hj h2
    rw [(kk j hj).1] at h2
    exact Rt.mono (fun m hm q => ⟨by rw [(kk m hm).1]; exact q, (kk m hm).2.1⟩) hj h2 (h.rooted j hj h2)
  · have := sumN_upd (n := n) (a := k) (b := k) (f := fun j => (V j).data.size) (g := fun j => (W j).data.size) (x := (s.size : Int) - (V k).data.size) (y := 0) hk hk (by
      intro m hm
      by_cases e1 : m = k
      · subst e1; rw [wk, if_pos rfl, if_pos rfl]; simp only []; omega
      · rw [wo m hm e1, if_neg e1, if_neg e1]; omega)
    omega
inductive On (n : Nat) (V : Nat → View) (x : Nat) : Nat → Prop
  | here : On n V x x
  | up {j m : Nat} : j ≠ 0 → (V j).up = (m : Int) → On n V x m → On n V x j
theorem fit_move (h : FitV n mx mb V) {d k to i : Nat} {nm last : ByteArray} {lt : List Ent} (hd : d < n) (hk : k < n) (ht : to < n) (hdd : (V d).kind = 2) (htd : (V to).kind = 2) (hent : ⟨nm, (k : Int)⟩ ∈ (V d).kids)
    (hno : ∀ e ∈ (V to).kids, e.name ≠ last) (hnm : NameOk last) (hroom : (V to).kids.length < 1024) (hlt : lt = if to = d then remE (V to).kids nm else (V to).kids) (hi : i ≤ lt.length)
    (lo : ∀ j (h : j < lt.length), j < i → sLt lt[j].name last = true) (hhi : ∀ j (h : j < lt.length), i ≤ j → sLt lt[j].name last = false) (hin : (V k).kind = 2 → ¬ On n V k to)
    (hV : ∀ j, j < n → W j = { V j with kids := if j = to then insE lt i ⟨last, k⟩ else if j = d then remE (V d).kids nm else (V j).kids, up := if (V k).kind = 2 ∧ j = k then (to : Int) else (V j).up }) : FitV n mx mb W := by
  obtain ⟨_, _, hklive, hkdir⟩ := h.ent hd hent rfl
  have hds := (h.dirs d hd hdd).2.2.sorted
  have hts := (h.dirs to ht htd).2.2.sorted
  have kk : ∀ j, j < n → (W j).kind = (V j).kind ∧ (W j).links = (V j).links ∧ (W j).data = (V j).data ∧ (W j).mode = (V j).mode := fun j hj => by
    rw [hV j hj]; exact ⟨rfl, rfl, rfl, rfl⟩
  have wkids : ∀ j, j < n → (W j).kids = if j = to then insE lt i ⟨last, k⟩ else if j = d then remE (V d).kids nm else (V j).kids := fun j hj => by rw [hV j hj]
  have wup : ∀ j, j < n → ¬ ((V k).kind = 2 ∧ j = k) → (W j).up = (V j).up := fun j hj q => by rw [hV j hj]; exact if_neg q
  have wupk : (V k).kind = 2 → (W k).up = to := fun q => by rw [hV k hk]; exact if_pos ⟨q, rfl⟩
  have hltm : ∀ e ∈ lt, e ∈ (V to).kids ∧ (to = d → e.name ≠ nm) := by
    intro e he
    rw [hlt] at he
    split at he
    · exact ⟨(mem_rem.1 he).1, fun _ => (mem_rem.1 he).2⟩
    · rename_i q; exact ⟨he, fun q2 => absurd q2 q⟩
  have hlts : Sorted lt := by
    rw [hlt]
    split
    · exact hts.rem
    · exact hts
  have hltl : lt.length ≤ (V to).kids.length := by
    rw [hlt]
    split
    · exact remE_le
    · exact Nat.le_refl _
  have hcnt : ∀ j, cntV n W j = cntV n V j := by
    intro j
    have := sumN_upd (n := n) (a := d) (b := to) (f := fun i => cntE (V i).kids j) (g := fun i => cntE (W i).kids j) (x := if j = k then -1 else 0) (y := if j = k then 1 else 0) hd ht (by
      intro m hm
      rw [wkids m hm]
      by_cases e1 : m = to
      · subst e1
        rw [if_pos rfl, if_pos rfl, cnt_ins, hlt]
        have ek : (if k = j then (1 : Nat) else 0) = if j = k then 1 else 0 := by
          by_cases q : j = k
          · rw [if_pos q, if_pos q.symm]
          · rw [if_neg q, if_neg (fun x => q x.symm)]
        rw [ek]
        by_cases e2 : m = d
        · subst e2
          rw [if_pos rfl, if_pos rfl]
          have := cnt_rem (j := j) hds hent
          by_cases q : j = k
          · rw [if_pos q] at *; rw [if_pos q]; omega
          · rw [if_neg q] at *; rw [if_neg q]; omega
        · rw [if_neg e2, if_neg e2]
          by_cases q : j = k
          · rw [if_pos q, if_pos q]; omega
          · rw [if_neg q, if_neg q]; omega
      · rw [if_neg e1, if_neg e1]
        by_cases e2 : m = d
        · subst e2
          rw [if_pos rfl, if_pos rfl, cnt_rem (j := j) hds hent]; omega
        · rw [if_neg e2, if_neg e2]; omega)
    unfold cntV
    by_cases q : j = k
    · rw [if_pos q, if_pos q] at this; omega
    · rw [if_neg q, if_neg q] at this; omega
  have honly : (V k).kind = 2 → ∀ i', i' < n → ∀ e ∈ (V i').kids, e.ino = (k : Int) → i' = d ∧ e.name = nm := by
    intro h2 i' hi' e he hek
    have h1 := (h.ent hi' he hek).2.2.2 h2
    have h3 := hkdir h2
    have hid : i' = d := by omega
    refine ⟨hid, ?_⟩
    subst hid
    have hone := h.once k hk h2 (by have := h3.1; omega)
    have hc : cntE (V i').kids k ≤ cntV n V k := sumN_le (f := fun i => cntE (V i).kids k) hi'
    have hr := cnt_rem (j := k) hds hent
    rw [if_pos rfl] at hr
    rcases Classical.em (e.name = nm) with q | q
    · exact q
    · have := cnt_memE (mem_rem.2 ⟨he, q⟩) hek
      omega
  refine ⟨h.n1, h.nmx, h.mx, h.mb0, h.mb1, ?_, ?_, ?_, ?_, ?_, ?_, ?_, ?_⟩
  · have h0 : 0 < n := by have := h.n1; omega
    rw [(kk 0 h0).1, wup 0 h0 (fun q => (hkdir q.1).1 q.2.symm)]; exact h.root
  · intro j hj
    obtain ⟨q1, q2, q3, q4⟩ := kk j hj
    obtain ⟨a, b⟩ := h.one j hj
    have hkn : (V j).kind ≠ 2 → (W j).kids = (V j).kids := fun q => by
      rw [wkids j hj, if_neg (by rintro rfl; exact q htd), if_neg (by rintro rfl; exact q hdd)]
    have hun : (V j).kind ≠ 2 → (W j).up = (V j).up := fun q => wup j hj (by rintro ⟨r1, r2⟩; subst r2; exact q r1)
    refine ⟨⟨fun q => ?_, fun q => ?_, fun q => ?_, fun q => ?_, fun q => ?_, ?_⟩, by rw [q3]; exact b⟩
    · rw [q1] at q
      have hne : (V j).kind ≠ 2 := by rw [q]; decide
      rw [q2, q3, q4, hkn hne, hun hne]; exact a.free q
    · rw [q1] at q; rw [q4]; exact a.mode q
    · rw [q1] at q
      have hne : (V j).kind ≠ 2 := by rw [q]; decide
      rw [hkn hne, hun hne]; exact a.file q
    · rw [q1] at q
      have hne : (V j).kind ≠ 2 := by rw [q]; decide
      rw [q3, hkn hne, hun hne]; exact a.link q
    · rw [q1] at q; rw [q3]; exact a.dir q
    · rw [q1]; exact a.kind
  · intro j hj h2
    rw [(kk j hj).1] at h2
    obtain ⟨⟨u, hu1, hu2⟩, b, c⟩ := h.dirs j hj h2
    refine ⟨?_, ?_, ?_⟩
    · by_cases q : (V k).kind = 2 ∧ j = k
      · obtain ⟨r1, r2⟩ := q
        subst r2
        exact ⟨to, ht, wupk r1⟩
      · exact ⟨u, hu1, by rw [wup j hj q]; exact hu2⟩
    · rw [wkids j hj]
      split
      · rw [len_ins hi]; omega
      · split
        · exact Nat.le_trans remE_le (h.dirs d hd hdd).2.1
        · exact b
    · refine ⟨?_, ?_, ?_⟩
      · rw [wkids j hj]
        split
        · exact sorted_ins hlts hi lo hhi (fun e he => hno e (hltm e he).1)
        · split
          · exact hds.rem
          · exact c.sorted
      · intro e he
        rw [wkids j hj] at he
        split at he
        · rcases mem_ins.1 he with rfl | he
          · exact hnm
          · exact (h.dirs to ht htd).2.2.name e (hltm e he).1
        · split at he
          · exact (h.dirs d hd hdd).2.2.name e (mem_rem.1 he).1
          · exact c.name e he
      · intro e he
        have hsrc : (j = to ∧ e = ⟨last, k⟩) ∨ (e ∈ (V j).kids ∧ (j = d → e.name ≠ nm)) := by
          rw [wkids j hj] at he
          split at he
          · rename_i q
            rcases mem_ins.1 he with rfl | he
            · exact .inl ⟨q, rfl⟩
            · subst q; exact .inr (hltm e he)
          · split at he
            · rename_i q; subst q; exact .inr ⟨(mem_rem.1 he).1, fun _ => (mem_rem.1 he).2⟩
            · rename_i q; exact .inr ⟨he, fun q2 => absurd q2 q⟩
        rcases hsrc with ⟨rfl, rfl⟩ | ⟨he', hne⟩
        · refine ⟨k, hk, rfl, by rw [(kk k hk).1]; exact hklive, fun q => ?_⟩
          rw [(kk k hk).1] at q
          exact ⟨(hkdir q).1, wupk q⟩
        · obtain ⟨m, r1, r2, r3, r4⟩ := c.live e he'
          refine ⟨m, r1, r2, by rw [(kk m r1).1]; exact r3, fun q => ?_⟩
          rw [(kk m r1).1] at q
          by_cases e1 : (V k).kind = 2 ∧ m = k
          · obtain ⟨s1, s2⟩ := e1
            subst s2
            obtain ⟨t1, t2⟩ := honly s1 j hj e he' r2
            exact absurd t2 (hne t1)
          · rw [wup m r1 e1]; exact r4 q
  · intro j hj; rw [hcnt, (kk j hj).2.1]; exact h.links j hj
  · intro j hj h2 h0; rw [hcnt]; rw [(kk j hj).1] at h2; exact h.named j hj h2 h0
  · intro j hj h2 h0; rw [hcnt]; rw [(kk j hj).1] at h2; exact h.once j hj h2 h0
  · have hto : Rt n W to := by
      have hr := h.rooted to ht htd
      by_cases q : (V k).kind = 2
      · have hno := hin q
        clear hroom hlt hno
        have hno := hin q
        clear hno
        have gen : ∀ x, Rt n V x → x < n → ¬ On n V k x → Rt n W x := by
          intro x hx
          induction hx with
          | root => intro _ _; exact .root
          | @up j m a b c dd ih =>
            intro hj hon
            by_cases h0 : j = 0
            · subst h0; exact .root
            · have hjk : j ≠ k := by rintro rfl; exact hon .here
              refine .up (by rw [wup j hj (fun q => hjk q.2)]; exact a) b (by rw [(kk m b).1]; exact c) (ih b (fun hm => hon (.up h0 a hm)))
        exact gen to hr ht (hin q)
      · exact Rt.mono (fun m hm r => ⟨by rw [(kk m hm).1]; exact r, wup m hm (fun s => q s.1)⟩) ht htd hr
    intro j hj h2
    rw [(kk j hj).1] at h2
    have hr := h.rooted j hj h2
    clear hroom
    induction hr with
    | root => exact .root
    | @up j m a b c dd ih =>
      by_cases q : (V k).kind = 2 ∧ j = k
      · obtain ⟨r1, r2⟩ := q
        subst r2
        exact .up (wupk r1) ht (by rw [(kk to ht).1]; exact htd) hto
      · exact .up (by rw [wup j hj q]; exact a) b (by rw [(kk m b).1]; exact c) (ih b c)
  · have : sumN n (fun j => (W j).data.size) = sumN n (fun j => (V j).data.size) := by
      unfold sumN
      congr 1
      apply List.map_congr_left
      intro i hi
      rw [(kk i (List.mem_range.1 hi)).2.2.1]
    rw [this]; exact h.bytes
end
end
section
def Kept (t : Tr) (cwd : Int) (t' : Tr) : Prop := T t' ∧ (t.dir cwd → t'.dir cwd)
theorem T.V {t : Tr} (h : T t) : FitV t.nodes.length t.mx t.mb t.V := fitV_of h.fit
theorem Like.T {t t' : Tr} (h : Like t t') (hf : FitV t.nodes.length t.mx t.mb t'.V) : T t' := by
  refine ⟨h.ok, fit_ofV ?_⟩
  rw [h.len, h.mx, h.mb]; exact hf
theorem Like.dir {t t' : Tr} (h : Like t t') {c : Int} (hc : t.dir c) (hk : ∀ j : Nat, c = j → j < t.nodes.length → (t.V j).kind = 2 → (t'.V j).kind = 2) : t'.dir c := by
  obtain ⟨j, rfl, hj⟩ := has_ex hc.1
  have hj' : j < t'.nodes.length := by rw [h.len]; exact hj
  exact ⟨has_nat hj', hk j rfl hj hc.2⟩
theorem kid_none {t : Tr} {d : Int} {nm : ByteArray} (hT : T t) (hd : t.dir d) (h : t.kid d nm = -1) : ∀ e ∈ (t.at d).kids, e.name ≠ nm := by
  intro e he hne
  unfold Tr.kid at h
  rw [if_pos hd] at h
  rcases kidL_cases (t.at d).kids nm with ⟨_, g2⟩ | ⟨e2, g1, g2, g3⟩
  · exact g2 e he hne
  · have := ((hT.fit.dirs _ hd).2.2.live e2 g1).1.1
    omega
theorem lt_of {t : Tr} {k : Nat} (h : t.has (k : Int)) : k < t.nodes.length := by have := h.2; unfold Tr.n at this; omega
theorem Plus.kept {t t' : Tr} {dd k : Nat} {nm : ByteArray} {x : Ino} (hT : T t) (h : Plus t t' dd k nm ⟨x.kind, x.mode, 1, x.data, [], x.up⟩) (hd : t.dir (dd : Int)) (hk : k < t.nodes.length ∧ (t.at (k : Int)).kind = 0) (hkid : t.kid (dd : Int) nm = -1) (hnm : NameOk nm) (hroom : (t.at (dd : Int)).kids.length < 1024)
    (hx : AloneV ⟨x.kind, x.mode, 1, x.data, [], x.up⟩) (hx0 : x.kind ≠ 0) (hxd : x.data.size ≤ 65536) (hxu : x.kind = 2 → x.up = dd) (hby : (t.sum : Int) + x.data.size ≤ t.mb) {cwd : Int} : Kept t cwd t' := by
  have hdl := lt_of hd.1
  have hkd : k ≠ dd := by
    rintro rfl
    have := hk.2; rw [hd.2] at this; cases this
  obtain ⟨i, hi, lo, hhi, hv⟩ := h.ex
  have hfree := (hT.V.one k hk.1).1.free hk.2
  have hf := fit_plus hT.V (W := t'.V) hdl hk.1 hd.2 hkd hnm (kid_none hT hd hkid) hroom hi lo hhi hv hx0 hx hxd rfl (by
    rw [hfree.2.1]; rfl) (.inl ⟨hk.2, hxu⟩) (by
    rw [hfree.2.2.1]
    have e0 : emS.size = 0 := rfl
    have := sum_V (t := t)
    simp only [e0]
    rw [this] at hby
    omega)
  refine ⟨h.like.T hf, fun hc => h.like.dir hc fun j _ hj h2 => ?_⟩
  have hjk : j ≠ k := by
    rintro rfl
    have := hk.2
    have h2' : (t.at (j : Int)).kind = 2 := h2
    rw [h2'] at this; cases this
  have := hv j hj
  show (t'.at (j : Int)).v.kind = 2
  rw [this, if_neg hjk]
  split <;> exact h2
theorem PlusL.kept {t t' : Tr} {dd k : Nat} {nm : ByteArray} (hT : T t) (h : PlusL t t' dd k nm) (hd : t.dir (dd : Int)) (hk : t.live (k : Int)) (hk2 : (t.at (k : Int)).kind ≠ 2) (hkid : t.kid (dd : Int) nm = -1) (hnm : NameOk nm) (hroom : (t.at (dd : Int)).kids.length < 1024) {cwd : Int} : Kept t cwd t' := by
  have hdl := lt_of hd.1
  have hkl := lt_of hk.1
  have hkd : k ≠ dd := by
    rintro rfl
    exact hk2 hd.2
  obtain ⟨i, hi, lo, hhi, hv⟩ := h.ex
  obtain ⟨a, b⟩ := hT.V.one k hkl
  have hb := hT.V.bytes
  have hf := fit_plus hT.V (W := t'.V) (y := { t.V k with links := (t.V k).links + 1 }) hdl hkl hd.2 hkd hnm (kid_none hT hd hkid) hroom hi lo hhi (fun j hj => by
      show (t'.at (j : Int)).v = _
      rw [hv j hj]
      split
      · rename_i e; subst e; rfl
      · rfl) hk.2 ⟨fun q => absurd q hk.2, a.mode, a.file, a.link, a.dir, a.kind⟩ b (hT.V.kids_nil hkl hk2) rfl (.inr ⟨hk.2, hk2, rfl⟩) (by simp only []; omega)
  refine ⟨h.like.T hf, fun hc => h.like.dir hc fun j _ hj h2 => ?_⟩
  have := hv j hj
  show (t'.at (j : Int)).v.kind = 2
  rw [this]
  split
  · exact h2
  · split <;> exact h2
theorem ent_of {l : List Ent} {nm : ByteArray} {k : Int} (h : ∃ e ∈ l, e.name = nm ∧ e.ino = k) : ⟨nm, k⟩ ∈ l := by
  obtain ⟨⟨a, b⟩, h1, h2, h3⟩ := h
  simp only [] at h2 h3
  subst h2 h3
  exact h1
theorem Minus.kept {t t' : Tr} {dd k : Nat} {nm : ByteArray} (hT : T t) (h : Minus t t' dd k nm) (hd : t.dir (dd : Int)) (hk : t.live (k : Int)) (hent : ∃ e ∈ (t.at (dd : Int)).kids, e.name = nm ∧ e.ino = (k : Int)) {cwd : Int} (hk2 : (t.at (k : Int)).kind = 2 → (t.at (k : Int)).kids = [] ∧ (k : Int) ≠ cwd) : Kept t cwd t' := by
  have hdl := lt_of hd.1
  have hkl := lt_of hk.1
  have hke : (t.V k).kids = [] := by
    by_cases q : (t.at (k : Int)).kind = 2
    · exact (hk2 q).1
    · exact hT.V.kids_nil hkl q
  have hkd : k ≠ dd := by
    rintro rfl
    obtain ⟨e, he, _⟩ := hent
    have hke : (t.at (k : Int)).kids = [] := hke
    rw [hke] at he; cases he
  have hf := fit_minus hT.V (W := t'.V) hdl hkl hd.2 hkd (ent_of hent) hke (fun j hj => by
    show (t'.at (j : Int)).v = _
    rw [h.ex j hj]
    rfl)
  refine ⟨h.like.T hf, fun hc => h.like.dir hc fun j hcj hj h2 => ?_⟩
  show (t'.at (j : Int)).v.kind = 2
  have h2' : (t.at (j : Int)).kind = 2 := h2
  rw [h.ex j hj]
  by_cases e : j = k
  · subst e
    exact absurd hcj.symm (hk2 h2').2
  · rw [if_neg e]
    split <;> exact h2
theorem Filled.kept {t t' : Tr} {k : Nat} {s : ByteArray} (hT : T t) (h : Filled t t' k s) (hk : t.has (k : Int)) (hf : (t.at (k : Int)).kind = 1) (hs : s.size ≤ 65536) (hby : (t.sum : Int) - (t.at (k : Int)).data.size + s.size ≤ t.mb) {cwd : Int} : Kept t cwd t' := by
  have hkl := lt_of hk
  have hb := sum_V (t := t)
  have hf := fit_fill hT.V (W := t'.V) (s := s) hkl hf hs (fun j hj => by
    show (t'.at (j : Int)).v = _
    rw [h.ex j hj]; rfl) (by
    rw [hb] at hby
    have : (t.V k).data = (t.at (k : Int)).data := rfl
    rw [this]; omega)
  refine ⟨h.like.T hf, fun hc => h.like.dir hc fun j hcj hj h2 => ?_⟩
  show (t'.at (j : Int)).v.kind = 2
  rw [h.ex j hj]
  split <;> exact h2
theorem on_wi {t : Tr} {k j : Nat} (h : On t.nodes.length t.V k j) : ∀ {m : Nat}, rootN t m (j : Int) = true → t.wi (k : Int) m (j : Int) = true := by
  induction h with
  | here =>
    intro m hm
    cases m with
    | zero => simp [rootN] at hm
    | succ m => unfold Tr.wi; rw [if_pos rfl]
  | @up j m' h0 hu hon ih =>
    intro m hm
    cases m with
    | zero => simp [rootN] at hm
    | succ m =>
      unfold Tr.wi
      split
      · rfl
      · have hj0 : ¬ (j : Int) = 0 := by omega
        rw [if_neg hj0]
        unfold rootN at hm
        rw [if_neg hj0] at hm
        have hup : (t.at (j : Int)).up = (m' : Int) := hu
        rw [hup] at hm ⊢
        split at hm
        · exact ih hm
        · cases hm
theorem rem_lt {l : List Ent} {nm : ByteArray} (h : ∃ e ∈ l, e.name = nm) : (remE l nm).length < l.length := by
  unfold remE
  obtain ⟨e, h1, h2⟩ := h
  exact List.length_filter_lt_length_iff_exists.2 ⟨e, h1, by simp [h2]⟩
theorem Moved.kept {t t' : Tr} {d k to : Nat} {nm last : ByteArray} {cwd : Int} (hT : T t) (h : Moved t t' d k nm to last (t.kid (to : Int) last)) (hd : t.dir (d : Int)) (hto : t.dir (to : Int)) (hk : t.live (k : Int)) (hkid : t.kid (d : Int) nm = k) (hent : ∃ e ∈ (t.at (d : Int)).kids, e.name = nm ∧ e.ino = (k : Int)) (hnm : NameOk last)
    (hin : (t.at (k : Int)).kind = 2 → t.within (to : Int) k = false) (hthk : t.kid (to : Int) last ≠ k) (hroom : t.kid (to : Int) last = -1 → (t.at (to : Int)).kids.length < 1024)
    (hth : 0 ≤ t.kid (to : Int) last → ((t.at (k : Int)).kind = 2 ↔ (t.at (t.kid (to : Int) last)).kind = 2) ∧ ((t.at (t.kid (to : Int) last)).kind = 2 → (t.at (t.kid (to : Int) last)).kids = [] ∧ t.kid (to : Int) last ≠ cwd)) : Kept t cwd t' := by
  have hdl := lt_of hd.1
  have htl := lt_of hto.1
  have hkl := lt_of hk.1
  have hV := hT.V
  have hon : (t.at (k : Int)).kind = 2 → ¬ On t.nodes.length t.V k to := fun q hon => by
    have := on_wi hon (hT.fit.rooted _ hto)
    have h2 := hin q
    unfold Tr.within at h2
    rw [h2] at this; cases this
  obtain ⟨i, lt, hlt, hi, lo, hhi, hv⟩ := h.ex
  rcases hT.kid_cases (to : Int) last with hno | ⟨_, hthl, hth0⟩
  · rw [hno] at hv
    have hne := kid_none hT hto hno
    have hrem : remE (t.at (to : Int)).kids last = (t.at (to : Int)).kids := remE_none hne
    have hf := fit_move hV (W := t'.V) (d := d) (k := k) (to := to) (nm := nm) (last := last) (lt := lt) (i := i) hdl hkl htl hd.2 hto.2 (ent_of hent) hne hnm (hroom hno) (by rw [hlt, hrem]; rfl) hi lo hhi hon (fun j hj => by
      show (t'.at (j : Int)).v = _
      rw [hv j hj, if_neg (show ¬ (j : Int) = -1 by omega)]
      rfl)
    refine ⟨h.like.T hf, fun hc => h.like.dir hc fun j hcj hj h2 => ?_⟩
    show (t'.at (j : Int)).v.kind = 2
    rw [hv j hj, if_neg (show ¬ (j : Int) = -1 by omega)]
    exact h2
  · obtain ⟨th, hthe⟩ : ∃ m : Nat, t.kid (to : Int) last = m := ⟨(t.kid (to : Int) last).toNat, by omega⟩
    rw [hthe] at hv hthl hthk hth
    obtain ⟨hiff, hemp⟩ := hth (by omega)
    have hthl2 := lt_of hthl.1
    have hthto : th ≠ to := by
      rintro rfl
      exact hT.kid_ne hthe
    have hke : (t.V th).kids = [] := by
      by_cases q : (t.at (th : Int)).kind = 2
      · exact (hemp q).1
      · exact hV.kids_nil hthl2 q
    have hthd : th ≠ d := by
      rintro rfl
      obtain ⟨e, he, _⟩ := hent
      have hke : (t.at (th : Int)).kids = [] := hke
      rw [hke] at he; cases he
    have hthk' : th ≠ k := by omega
    obtain ⟨_, hent2⟩ := hT.kid_mem hthe
    let V1 : Nat → View := fun j => if j = th then (if (t.V th).links = 1 then Ino.free.v else { t.V j with links := (t.V j).links - 1 }) else if j = to then { t.V j with kids := remE (t.V to).kids last } else t.V j
    have hf1 : FitV t.nodes.length t.mx t.mb V1 := fit_minus hV htl hthl2 hto.2 hthto (ent_of hent2) hke (fun j hj => rfl)
    have v1to : V1 to = { t.V to with kids := remE (t.V to).kids last } := by show (if to = th then _ else _) = _; rw [if_neg (fun e => hthto e.symm), if_pos rfl]
    have v1o : ∀ j, j ≠ th → (V1 j).kind = (t.V j).kind ∧ (V1 j).up = (t.V j).up := fun j q => by
      show ((if j = th then _ else _ : View).kind) = _ ∧ (if j = th then _ else _ : View).up = _
      rw [if_neg q]
      split <;> exact ⟨rfl, rfl⟩
    have v1d : (V1 d).kids = if to = d then remE (t.V to).kids last else (t.V d).kids := by
      show ((if d = th then _ else _ : View).kids) = _
      rw [if_neg (fun e => hthd e.symm)]
      by_cases q : d = to
      · rw [if_pos q, if_pos q.symm]
      · rw [if_neg q, if_neg (fun e => q e.symm)]
    have hent1 : ⟨nm, (k : Int)⟩ ∈ (V1 d).kids := by
      rw [v1d]
      split
      · rename_i q
        subst q
        refine mem_rem.2 ⟨ent_of hent, ?_⟩
        rintro rfl
        rw [hkid] at hthe
        omega
      · exact ent_of hent
    have hon1 : (V1 k).kind = 2 → ¬ On t.nodes.length V1 k to := by
      intro q
      rw [(v1o k hthk'.symm).1] at q
      intro ho
      refine hon q ?_
      have gen : ∀ x, On t.nodes.length V1 k x → x < t.nodes.length → x ≠ th → (t.V x).kind = 2 → On t.nodes.length t.V k x := by
        intro x hx
        induction hx with
        | here => intro _ _ _; exact .here
        | @up j m h0 hu hon ih =>
          intro hj hjt hj2
          rw [(v1o j hjt).2] at hu
          have hmt := hV.up_not hj hj2 h0 hke hu
          cases hV.rooted j hj hj2 with
          | root => exact absurd rfl h0
          | up a b c dd =>
            rename_i m'
            have : m' = m := by omega
            subst this
            exact .up h0 hu (ih b hmt c)
      exact gen to ho htl (fun e => hthto e.symm) hto.2
    have hf := fit_move hf1 (W := t'.V) (d := d) (k := k) (to := to) (nm := nm) (last := last) (lt := lt) (i := i) hdl hkl htl (by rw [(v1o d (fun e => hthd e.symm)).1]; exact hd.2) (by rw [(v1o to (fun e => hthto e.symm)).1]; exact hto.2) hent1 (by
        intro e he; rw [v1to] at he; exact (mem_rem.1 he).2) hnm (by
        rw [v1to]
        obtain ⟨e, he, hn, _⟩ := hent2
        have := rem_lt ⟨e, he, hn⟩
        have := hT.kids_le hto.1
        show (remE (t.at (to : Int)).kids last).length < 1024
        omega) (by rw [hlt, v1to]; rfl) hi lo hhi hon1 (fun j hj => by
        show (t'.at (j : Int)).v = _
        rw [hv j hj, v1d, (v1o k hthk'.symm).1]
        by_cases q : j = th
        · subst q
          have e1 : V1 j = (if (t.V j).links = 1 then Ino.free.v else { t.V j with links := (t.V j).links - 1 }) := if_pos rfl
          rw [e1, if_pos rfl]
          have q3 : ¬ ((t.V k).kind = 2 ∧ j = k) := fun r => hthk' r.2
          simp only [if_neg hthto, if_neg hthd, if_neg q3]
          rfl
        · rw [if_neg (show ¬ (j : Int) = (th : Int) by omega)]
          have e1 : V1 j = if j = to then { t.V j with kids := remE (t.V to).kids last } else t.V j := if_neg q
          rw [e1]
          by_cases q1 : j = to
          · subst q1
            simp only [if_true]
            rfl
          · simp only [if_neg q1]
            by_cases q2 : j = d
            · subst q2
              simp only [if_true, if_neg (show ¬ to = j from fun e => q1 e.symm)]
              rfl
            · simp only [if_neg q2]
              rfl)
    refine ⟨h.like.T hf, fun hc => h.like.dir hc fun j hcj hj h2 => ?_⟩
    show (t'.at (j : Int)).v.kind = 2
    have h2' : (t.at (j : Int)).kind = 2 := h2
    rw [hv j hj]
    by_cases q : j = th
    · subst q
      exact absurd hcj.symm (hemp h2').2
    · rw [if_neg (show ¬ (j : Int) = (th : Int) by omega)]
      exact h2
end
end Go.Mm
end
section
namespace Go.Mm
open Go.Proofs
variable [Globs]
set_option maxRecDepth 8000
open Go.Proofs.Tryz renaming prog → TP
section
def andV (k : IntKind) (a b : Int) : Int := k.wrap (BitVec.ofInt k.bits a &&& BitVec.ofInt k.bits b).toNat
def orV (k : IntKind) (a b : Int) : Int := k.wrap (BitVec.ofInt k.bits a ||| BitVec.ofInt k.bits b).toNat
def andnV (k : IntKind) (a b : Int) : Int := k.wrap (BitVec.ofInt k.bits a &&& ~~~(BitVec.ofInt k.bits b)).toNat
def shlV (k : IntKind) (x : Int) (y : Nat) : Int := k.wrap (x * 2 ^ (min y k.bits))
def shrV (k : IntKind) (x : Int) (y : Nat) : Int := x.fdiv (2 ^ (min y k.bits))
theorem i_and {c : Nat} {k : IntKind} {a b : Int} : binM c .and (.int k a) (.int k b) = some (.int k (andV k a b)) := by simp only [binM, ints, if_true]; rfl
theorem i_or {c : Nat} {k : IntKind} {a b : Int} : binM c .or (.int k a) (.int k b) = some (.int k (orV k a b)) := by simp only [binM, ints, if_true]; rfl
theorem i_andn {c : Nat} {k : IntKind} {a b : Int} : binM c .andNot (.int k a) (.int k b) = some (.int k (andnV k a b)) := by simp only [binM, ints, if_true]; rfl
theorem i_shl {c : Nat} {k k' : IntKind} {a b : Int} (h : 0 ≤ b) : binM c .shl (.int k a) (.int k' b) = some (.int k (shlV k a b.toNat)) := by
  simp only [binM, shifts]; rw [if_neg (by omega)]; rfl
theorem i_shr {c : Nat} {k k' : IntKind} {a b : Int} (h : 0 ≤ b) : binM c .shr (.int k a) (.int k' b) = some (.int k (shrV k a b.toNat)) := by
  simp only [binM, shifts]; rw [if_neg (by omega)]; rfl
class GOk : Prop where
  g1 : ∃ cs, Globs.glob 1 = some cs ∧ ∀ b : Nat, b < 256 → ∃ x : Int, cs[b]? = some (.int .u8 x) ∧ (x < 240 → 2 ≤ IntKind.i64.wrap (andV .u8 x 7) ∧ IntKind.i64.wrap (andV .u8 x 7) ≤ 4 ∧ 0 ≤ shrV .u8 x 4 ∧ shrV .u8 x 4 < 16)
  g2 : ∃ cs, Globs.glob 2 = some cs ∧ cs.length = 32 ∧ ∀ i : Nat, i < 16 → ∃ a b : Int, (cs.drop (i * 2)).take 2 = [.int .u8 a, .int .u8 b]
variable [GOk]
theorem s82 {c : Int} : ∃ b : Bool, Gives C TP 82 [.int .u8 c] (.bool b) := by
  have main : ∃ d, Gives C TP 82 [.int .u8 c] d ∧ ∃ b : Bool, d = .bool b := by
    refine frz_ex rfl rfl rfl (body_h b82 (by show 1 ≤ 6; decide) ?_)
    simp -dsimp only [↓R0, RA, simprocAttr, i_and]
    exact ⟨_, fz_0 rfl, _, rfl⟩
  obtain ⟨d, h, b, rfl⟩ := main
  exact ⟨b, h⟩
theorem s129 {s : ByteArray} (hs : s.size ≤ 9223372036854775807) : ∃ d, Gives C TP 129 [.str s] d ∧ ∃ r n : Int, d = .tup [.int .i32 r, .int .i64 n] ∧ (s.size = 0 → n = 0) ∧ (1 ≤ s.size → 1 ≤ n ∧ n ≤ s.size) := by
  refine frz_ex rfl rfl rfl (body_h b129 (by show 1 ≤ 117; decide) ?_)
  have fin : ∀ (st : Store) (r : Int) (n : Nat), (s.size = 0 → n = 0) → (1 ≤ s.size → 1 ≤ n ∧ n ≤ s.size) → ∃ d, fz st 8 (.tup [.int .i32 r, .int .i64 n]) = some d ∧ ∃ r n : Int, d = .tup [.int .i32 r, .int .i64 n] ∧ (s.size = 0 → n = 0) ∧ (1 ≤ s.size → 1 ≤ n ∧ n ≤ s.size) := fun st r n h1 h2 =>
    ⟨_, fz_0 (by simp only [refs, refsL, List.append_nil]), r, n, rfl, by omega, by omega⟩
  obtain ⟨T1, hg1, hT1⟩ := GOk.g1
  obtain ⟨T2, hg2, hl2, hT2⟩ := GOk.g2
  have hr1 : ∀ fr, rd fr (.global 1) = some (.fptr T1 0) := fun fr => by simp only [rd, hg1]
  have hr2 : ∀ fr, rd fr (.global 2) = some (.fptr T2 0) := fun fr => by simp only [rd, hg2]
  simp -dsimp only [↓R0, RA, simprocAttr]
  apply hIf_d <;> intro h1
  · simp -dsimp only [↓R0, RA, simprocAttr]
    exact fin _ _ 0 (by omega) (by omega)
  · have hs0 : 1 ≤ s.size := by omega
    obtain ⟨X, hX, hX2⟩ := hT1 (atB s 0).toNat (by have := (atB s 0).toNat_lt; omega)
    have hi0 : idxT (.str s) (.int .i64 0) = some (.int .u8 (atB s 0).toNat) := ixT_of (by omega) (by omega)
    have hi1 : idxA 256 1 (.fptr T1 0) (.int .u8 (atB s 0).toNat) = some (.fptr T1 (atB s 0).toNat) := by
      have := (atB s 0).toNat_lt
      simp only [idxA, idx]
      rw [if_pos (by omega)]
      simp
    simp -dsimp only [↓R0, RA, simprocAttr, hi0, hr1, hi1, hX]
    apply hIf_d <;> intro h2
    · simp -dsimp only [↓R0, RA, simprocAttr, hi0, i_shl, i_shr, i_and, i_or, i_andn]
      exact fin _ _ 1 (by omega) (by omega)
    · obtain ⟨x1, x2, x3, x4⟩ := hX2 (by omega)
      obtain ⟨a, b, hab⟩ := hT2 (shrV .u8 X 4).toNat (by omega)
      have hi2 : idxA 16 2 (.fptr T2 0) (.int .u8 (shrV .u8 X 4)) = some (.fptr T2 ((shrV .u8 X 4).toNat * 2)) := by
        simp only [idxA, idx]
        rw [if_pos (by omega)]
        simp
      have hle : ((shrV .u8 X 4).toNat * 2 + 2 ≤ T2.length) = True := by simp; omega
      simp -dsimp only [↓R0, RA, simprocAttr, hr2, i_shr, i_and, hi2, hab, hle]
      apply hIf_d <;> intro h3
      · simp -dsimp only [↓R0, RA, simprocAttr]
        exact fin _ _ 1 (by omega) (by omega)
      · have hi3 : idxT (.str s) (.int .i64 1) = some (.int .u8 (atB s 1).toNat) := ixT_of (by omega) (by omega)
        simp -dsimp only [↓R0, RA, simprocAttr, hi3]
        apply hIf_d <;> intro h4
        · simp -dsimp only [↓R0, RA, simprocAttr, decide_eq_true h4]
          exact fin _ _ 1 (by omega) (by omega)
        · simp -dsimp only [↓R0, RA, simprocAttr, decide_eq_false h4]
          apply hIf_d <;> intro h5
          · simp -dsimp only [↓R0, RA, simprocAttr]
            exact fin _ _ 1 (by omega) (by omega)
          · simp -dsimp only [↓R0, RA, simprocAttr]
            apply hIf_d <;> intro h6
            · simp -dsimp only [↓R0, RA, simprocAttr, i_shl, i_shr, i_and, i_or]
              exact fin _ _ 2 (by omega) (by omega)
            · have hi4 : idxT (.str s) (.int .i64 2) = some (.int .u8 (atB s 2).toNat) := ixT_of (by omega) (by omega)
              simp -dsimp only [↓R0, RA, simprocAttr, hi4]
              apply hIf_d <;> intro h7
              · simp -dsimp only [↓R0, RA, simprocAttr, decide_eq_true h7]
                exact fin _ _ 1 (by omega) (by omega)
              · simp -dsimp only [↓R0, RA, simprocAttr, decide_eq_false h7]
                apply hIf_d <;> intro h8
                · simp -dsimp only [↓R0, RA, simprocAttr]
                  exact fin _ _ 1 (by omega) (by omega)
                · simp -dsimp only [↓R0, RA, simprocAttr]
                  apply hIf_d <;> intro h9
                  · simp -dsimp only [↓R0, RA, simprocAttr, i_shl, i_shr, i_and, i_or]
                    exact fin _ _ 3 (by omega) (by omega)
                  · have hi5 : idxT (.str s) (.int .i64 3) = some (.int .u8 (atB s 3).toNat) := ixT_of (by omega) (by omega)
                    simp -dsimp only [↓R0, RA, simprocAttr, hi5]
                    apply hIf_d <;> intro h10
                    · simp -dsimp only [↓R0, RA, simprocAttr, decide_eq_true h10]
                      exact fin _ _ 1 (by omega) (by omega)
                    · simp -dsimp only [↓R0, RA, simprocAttr, decide_eq_false h10]
                      apply hIf_d <;> intro h11
                      · simp -dsimp only [↓R0, RA, simprocAttr]
                        exact fin _ _ 1 (by omega) (by omega)
                      · simp -dsimp only [↓R0, RA, simprocAttr, i_shl, i_shr, i_and, i_or]
                        exact fin _ _ 4 (by omega) (by omega)
theorem s83 {s : ByteArray} (hs : s.size ≤ 9223372036854775807) : ∃ d, Gives C TP 83 [.str s] d ∧ ∃ r n : Int, d = .tup [.int .i32 r, .int .i64 n] ∧ (s.size = 0 → n = 0) ∧ (1 ≤ s.size → 1 ≤ n ∧ n ≤ s.size) := by
  refine frz_ex rfl rfl rfl (body_h b83 (by show 1 ≤ 19; decide) ?_)
  have fin : ∀ (st : Store) (r : Int) (n : Int), (s.size = 0 → n = 0) → (1 ≤ s.size → 1 ≤ n ∧ n ≤ s.size) → ∃ d, fz st 8 (.tup [.int .i32 r, .int .i64 n]) = some d ∧ ∃ r n : Int, d = .tup [.int .i32 r, .int .i64 n] ∧ (s.size = 0 → n = 0) ∧ (1 ≤ s.size → 1 ≤ n ∧ n ≤ s.size) := fun st r n h1 h2 =>
    ⟨_, fz_0 (by simp only [refs, refsL, List.append_nil]), r, n, rfl, h1, h2⟩
  obtain ⟨_, g1, r, n, rfl, g2, g3⟩ := s129 hs
  simp -dsimp only [↓R0, RA, simprocAttr]
  by_cases h0 : s = ⟨#[]⟩
  · simp -dsimp only [↓R0, RA, simprocAttr, decide_eq_true h0, hCall_g g1]
    exact fin _ _ _ g2 g3
  · have hs0 : 1 ≤ s.size := by
      rcases Nat.eq_zero_or_pos s.size with h | h
      · exact absurd (ByteArray.size_eq_zero_iff.1 h) h0
      · exact h
    have hi0 : idxT (.str s) (.int .i64 0) = some (.int .u8 (atB s 0).toNat) := ixT_of (by omega) (by omega)
    simp -dsimp only [↓R0, RA, simprocAttr, decide_eq_false h0, hi0]
    apply hIf_d <;> intro h1
    · simp -dsimp only [↓R0, RA, simprocAttr, hi0]
      exact fin _ _ _ (by omega) (by omega)
    · simp -dsimp only [↓R0, RA, simprocAttr, hCall_g g1]
      exact fin _ _ _ g2 g3
theorem s53 {s : ByteArray} (hs : s.size ≤ 1000000) : ∃ d, Gives C TP 53 [.str s] d ∧ ∃ r n : Int, d = .tup [.int .i32 r, .int .i64 n] ∧ (s.size = 0 → n = 0) ∧ (1 ≤ s.size → 1 ≤ n ∧ n ≤ s.size) := by
  refine frz_ex rfl rfl rfl (body_h b53 (by show 1 ≤ 51; decide) ?_)
  have fin : ∀ (st : Store) (r : Int) (n : Int), (s.size = 0 → n = 0) → (1 ≤ s.size → 1 ≤ n ∧ n ≤ s.size) → ∃ d, fz st 8 (.tup [.int .i32 r, .int .i64 n]) = some d ∧ ∃ r n : Int, d = .tup [.int .i32 r, .int .i64 n] ∧ (s.size = 0 → n = 0) ∧ (1 ≤ s.size → 1 ≤ n ∧ n ≤ s.size) := fun st r n h1 h2 =>
    ⟨_, fz_0 (by simp only [refs, refsL, List.append_nil]), r, n, rfl, h1, h2⟩
  simp -dsimp only [↓R0, RA, simprocAttr]
  apply hIf_d <;> intro h1
  · simp -dsimp only [↓R0, RA, simprocAttr]
    exact fin _ _ 0 (by omega) (by omega)
  · have w1 : IntKind.i64.wrap ((s.size : Int) - 1) = (s.size : Int) - 1 := by rw [w64] <;> omega
    have w2 : IntKind.i64.wrap ((s.size : Int) - 1 - 1) = (s.size : Int) - 1 - 1 := by rw [w64] <;> omega
    have w4 : IntKind.i64.wrap ((s.size : Int) - 4) = (s.size : Int) - 4 := by rw [w64] <;> omega
    have hi0 : idxT (.str s) (.int .i64 ((s.size : Int) - 1)) = some (.int .u8 (atB s ((s.size : Int) - 1).toNat).toNat) := ixT_of (by omega) (by omega)
    simp -dsimp only [↓R0, RA, simprocAttr, w1, hi0]
    apply hIf_d <;> intro h2
    · simp -dsimp only [↓R0, RA, simprocAttr]
      exact fin _ _ 1 (by omega) (by omega)
    · simp -dsimp only [↓R0, RA, simprocAttr, w4, w2, max_i]
      generalize hlim : (if (s.size : Int) - 4 < 0 then (0 : Int) else (s.size : Int) - 4) = lim
      have hlim2 : 0 ≤ lim := by rw [← hlim]; split <;> omega
      refine hLoop_i (fun a : Int => (a + 1 - 0).toNat) (fun a fr' st' => fr' 0 = .str s ∧ fr' 4 = .int .i64 s.size ∧ fr' 5 = .int .i64 a ∧ fr' 6 = .int .i64 lim ∧ -1 ≤ a ∧ a ≤ (s.size : Int) - 2 ∧ st' = []) ((s.size : Int) - 1 - 1) ⟨rfl, rfl, rfl, rfl, by omega, by omega, rfl⟩ ?_
      rintro a fr st ⟨e0, e4, e5, e6, ha1, ha2, rfl⟩
      simp -dsimp only [↓R0, RA, simprocAttr, e5, e6]
      apply hIf_d <;> intro h3
      · have hi1 : idxT (.str s) (.int .i64 a) = some (.int .u8 (atB s a.toNat).toNat) := ixT_of (by omega) (by omega)
        obtain ⟨b, hb⟩ := s82 (c := (atB s a.toNat).toNat)
        simp -dsimp only [↓R0, RA, simprocAttr, e0, e5, hi1, hCall_g hb]
        refine hIf_b (fun h4 => ?_) (fun h4 => ?_)
        · simp -dsimp only [↓R0, RA, simprocAttr, h4]
          simp -dsimp only [↓R0, RA, simprocAttr, e0, e4, e5]
          apply hIf_d <;> intro h8
          · simp -dsimp only [↓R0, RA, simprocAttr, e0, e4]
            have hsz : (s.extract (0 : Nat) s.size).size = s.size - (0 : Nat) := by rw [ByteArray.size_extract]; omega
            obtain ⟨_, g1, r, n, rfl, g2, g3⟩ := s83 (s := s.extract (0 : Nat) s.size) (by omega)
            have hsl : sliceT (.str s) (some (.int .i64 (0 : Int))) (some (.int .i64 s.size)) = some (.str (s.extract (0 : Nat) s.size)) := by
              rw [slT_both (by omega) (by omega) (by omega)]
              simp only [Int.toNat_natCast]
              try rfl
            simp -dsimp only [↓R0, RA, simprocAttr, e0, e4, e5, hsl, hCall_g g1]
            have hw : IntKind.i64.wrap ((0 : Int) + n) = (0 : Int) + n := by rw [w64] <;> omega
            apply hIf_d <;> intro h9
            · rw [hw] at h9
              simp -dsimp only [↓R0, RA, simprocAttr]
              exact fin _ _ _ (by omega) (by omega)
            · simp -dsimp only [↓R0, RA, simprocAttr]
              exact fin _ _ 1 (by omega) (by omega)
          · simp -dsimp only [↓R0, RA, simprocAttr, e0, e4, e5]
            have hsz : (s.extract a.toNat s.size).size = s.size - a.toNat := by rw [ByteArray.size_extract]; omega
            obtain ⟨_, g1, r, n, rfl, g2, g3⟩ := s83 (s := s.extract a.toNat s.size) (by omega)
            have hsl : sliceT (.str s) (some (.int .i64 a)) (some (.int .i64 s.size)) = some (.str (s.extract a.toNat s.size)) := by
              rw [slT_both (by omega) (by omega) (by omega)]
              simp only [Int.toNat_natCast]
              try rfl
            simp -dsimp only [↓R0, RA, simprocAttr, e0, e4, e5, hsl, hCall_g g1]
            have hw : IntKind.i64.wrap (a + n) = a + n := by rw [w64] <;> omega
            apply hIf_d <;> intro h9
            · rw [hw] at h9
              simp -dsimp only [↓R0, RA, simprocAttr]
              exact fin _ _ _ (by omega) (by omega)
            · simp -dsimp only [↓R0, RA, simprocAttr]
              exact fin _ _ 1 (by omega) (by omega)
        · have w5 : IntKind.i64.wrap (a - 1) = a - 1 := by rw [w64] <;> omega
          simp -dsimp only [↓R0, RA, simprocAttr, h4, e5, w5]
          exact ⟨a - 1, by omega, (by first | trivial | (simp -dsimp only [R1, simprocAttr, e0]; done) | rfl), (by first | trivial | (simp -dsimp only [R1, simprocAttr, e4]; done) | rfl), (by first | trivial | (simp -dsimp only [R1, simprocAttr, w5]; done) | rfl), (by first | trivial | (simp -dsimp only [R1, simprocAttr, e6]; done) | rfl), by omega, by omega, by first | trivial | rfl⟩
      · simp -dsimp only [↓R0, RA, simprocAttr]
        simp -dsimp only [↓R0, RA, simprocAttr, e0, e4, e5]
        apply hIf_d <;> intro h8
        · simp -dsimp only [↓R0, RA, simprocAttr, e0, e4]
          have hsz : (s.extract (0 : Nat) s.size).size = s.size - (0 : Nat) := by rw [ByteArray.size_extract]; omega
          obtain ⟨_, g1, r, n, rfl, g2, g3⟩ := s83 (s := s.extract (0 : Nat) s.size) (by omega)
          have hsl : sliceT (.str s) (some (.int .i64 (0 : Int))) (some (.int .i64 s.size)) = some (.str (s.extract (0 : Nat) s.size)) := by
            rw [slT_both (by omega) (by omega) (by omega)]
            simp only [Int.toNat_natCast]
            try rfl
          simp -dsimp only [↓R0, RA, simprocAttr, e0, e4, e5, hsl, hCall_g g1]
          have hw : IntKind.i64.wrap ((0 : Int) + n) = (0 : Int) + n := by rw [w64] <;> omega
          apply hIf_d <;> intro h9
          · rw [hw] at h9
            simp -dsimp only [↓R0, RA, simprocAttr]
            exact fin _ _ _ (by omega) (by omega)
          · simp -dsimp only [↓R0, RA, simprocAttr]
            exact fin _ _ 1 (by omega) (by omega)
        · simp -dsimp only [↓R0, RA, simprocAttr, e0, e4, e5]
          have hsz : (s.extract a.toNat s.size).size = s.size - a.toNat := by rw [ByteArray.size_extract]; omega
          obtain ⟨_, g1, r, n, rfl, g2, g3⟩ := s83 (s := s.extract a.toNat s.size) (by omega)
          have hsl : sliceT (.str s) (some (.int .i64 a)) (some (.int .i64 s.size)) = some (.str (s.extract a.toNat s.size)) := by
            rw [slT_both (by omega) (by omega) (by omega)]
            simp only [Int.toNat_natCast]
            try rfl
          simp -dsimp only [↓R0, RA, simprocAttr, e0, e4, e5, hsl, hCall_g g1]
          have hw : IntKind.i64.wrap (a + n) = a + n := by rw [w64] <;> omega
          apply hIf_d <;> intro h9
          · rw [hw] at h9
            simp -dsimp only [↓R0, RA, simprocAttr]
            exact fin _ _ _ (by omega) (by omega)
          · simp -dsimp only [↓R0, RA, simprocAttr]
            exact fin _ _ 1 (by omega) (by omega)
end
end Go.Mm
end
section
namespace Go.Mm
open Go.Proofs
variable [Globs] [GOk]
set_option maxRecDepth 8000
open Go.Proofs.Tryz renaming prog → TP
section
theorem width_pos (s : ByteArray) (pos : Nat) : 1 ≤ (Utf8.decode s pos).2 := by
  unfold Utf8.decode
  simp only []
  repeat' split
  all_goals simp
theorem s35 {s set : ByteArray} (hs : s.size ≤ 1000000) (hset : set.size ≤ 1000000) : ∃ d, Gives C TP 35 [.str s, .str set] d ∧ ∃ r : ByteArray, d = .str r ∧ r.size ≤ s.size := by
  refine frz_ex rfl rfl rfl (body_h b35 (by show 2 ≤ 32; decide) ?_)
  simp -dsimp only [↓R0, RA, simprocAttr]
  refine hLoop_i (fun p : Nat => s.size - p) (fun p fr' st' => fr' 0 = .str s ∧ fr' 1 = .str set ∧ fr' 11 = .ptr 0 0 0 ∧ st'[0]? = some (.iter s p)) 0 ⟨rfl, rfl, rfl, rfl⟩ ?_
  rintro p fr st ⟨h0, h1, h11, hp⟩
  simp -dsimp only [↓R0, RA, simprocAttr, h11, hp]
  by_cases hc : p < s.size
  · have hc' : ((p : Int) ≤ s.size) := by omega
    have hw := width_pos s p
    simp -dsimp only [↓R0, RA, simprocAttr, hc, h1]
    generalize hst : (st.set 0 (.iter s (p + (Utf8.decode s p).2))) = st1
    have hp1 : st1[0]? = some (.iter s (p + (Utf8.decode s p).2)) := by rw [← hst]; exact get_set_eq hp
    have hl1 := get_lt hp1
    refine hLoop_i (fun q : Nat => set.size - q) (fun q fr' st' => fr' 0 = .str s ∧ fr' 1 = .str set ∧ fr' 5 = .int .i64 p ∧ fr' 6 = .int .i32 ((Utf8.decode s p).1 : Nat) ∧ (∃ b : Bool, fr' 7 = .bool b) ∧ fr' 11 = .ptr 0 0 0 ∧ fr' 17 = .ptr st1.length 0 0 ∧ st'[0]? = some (.iter s (p + (Utf8.decode s p).2)) ∧ st'[st1.length]? = some (.iter set q)) 0 ⟨(by first | trivial | (simp -dsimp only [R1, simprocAttr, h0]; done) | rfl), (by first | trivial | (simp -dsimp only [R1, simprocAttr, h1]; done) | rfl), (by first | trivial | (simp -dsimp only [R1, simprocAttr]; done) | rfl), (by first | trivial | (simp -dsimp only [R1, simprocAttr]; done) | rfl), ⟨false, (by first | trivial | (simp -dsimp only [R1, simprocAttr]; done) | rfl)⟩, (by first | trivial | (simp -dsimp only [R1, simprocAttr, h11]; done) | rfl), (by first | trivial | (simp -dsimp only [R1, simprocAttr]; done) | rfl), get_app hp1, by rw [app_get0]; rfl⟩ ?_
    rintro q fr2 st2 ⟨e0, e1, e5, e6, ⟨b, e7⟩, e11, e17, ep, eq⟩
    simp -dsimp only [↓R0, RA, simprocAttr, e17, eq]
    by_cases hq : q < set.size
    · have hw2 := width_pos set q
      have f0 : (st2.set st1.length (.iter set (q + (Utf8.decode set q).2)))[0]? = some (.iter s (p + (Utf8.decode s p).2)) := by rw [get_set_ne (by omega)]; exact ep
      have f1 : (st2.set st1.length (.iter set (q + (Utf8.decode set q).2)))[st1.length]? = some (.iter set (q + (Utf8.decode set q).2)) := get_set_eq eq
      cases b with
      | true =>
        simp -dsimp only [↓R0, RA, simprocAttr, hq, e7]
        exact ⟨q + (Utf8.decode set q).2, by omega, (by first | trivial | (simp -dsimp only [R1, simprocAttr, e0]; done) | rfl), (by first | trivial | (simp -dsimp only [R1, simprocAttr, e1]; done) | rfl), (by first | trivial | (simp -dsimp only [R1, simprocAttr, e5]; done) | rfl), (by first | trivial | (simp -dsimp only [R1, simprocAttr, e6]; done) | rfl), ⟨true, (by first | trivial | (simp -dsimp only [R1, simprocAttr]; done) | rfl)⟩, (by first | trivial | (simp -dsimp only [R1, simprocAttr, e11]; done) | rfl), (by first | trivial | (simp -dsimp only [R1, simprocAttr, e17]; done) | rfl), f0, f1⟩
      | false =>
        simp -dsimp only [↓R0, RA, simprocAttr, hq, e7, e6]
        exact ⟨q + (Utf8.decode set q).2, by omega, (by first | trivial | (simp -dsimp only [R1, simprocAttr, e0]; done) | rfl), (by first | trivial | (simp -dsimp only [R1, simprocAttr, e1]; done) | rfl), (by first | trivial | (simp -dsimp only [R1, simprocAttr, e5]; done) | rfl), (by first | trivial | (simp -dsimp only [R1, simprocAttr, e6]; done) | rfl), ⟨_, (by first | trivial | (simp -dsimp only [R1, simprocAttr]; done) | rfl)⟩, (by first | trivial | (simp -dsimp only [R1, simprocAttr, e11]; done) | rfl), (by first | trivial | (simp -dsimp only [R1, simprocAttr, e17]; done) | rfl), f0, f1⟩
    · simp -dsimp only [↓R0, RA, simprocAttr, hq, e7, un]
      refine hIf_b (fun hb => ?_) (fun hb => ?_)
      rotate_left
      · simp -dsimp only [↓R0, RA, simprocAttr, hb, e0, e5, slT_lo (show (0 : Int) ≤ p by omega) hc']
        refine ⟨_, fz_0 (by simp only [refs]), _, rfl, ?_⟩
        rw [ByteArray.size_extract]; omega
      · simp -dsimp only [↓R0, RA, simprocAttr, hb]
        exact ⟨p + (Utf8.decode s p).2, by omega, e0, e1, e11, ep⟩
  · simp -dsimp only [↓R0, RA, simprocAttr, hc]
    exact ⟨_, fz_0 (by simp only [refs]), _, rfl, Nat.zero_le _⟩
theorem s34 {s set : ByteArray} (hs : s.size ≤ 1000000) (hset : set.size ≤ 1000000) : ∃ d, Gives C TP 34 [.str s, .str set] d ∧ ∃ r : ByteArray, d = .str r ∧ r.size ≤ s.size ∧ (s.size = 0 → r = s) := by
  refine frz_ex rfl rfl rfl (body_h b34 (by show 2 ≤ 39; decide) ?_)
  simp -dsimp only [↓R0, RA, simprocAttr]
  refine hLoop_i (fun x : ByteArray => x.size) (fun x fr' st' => fr' 0 = .str x ∧ fr' 1 = .str set ∧ x.size ≤ s.size ∧ (s.size = 0 → x = s)) s ⟨rfl, rfl, Nat.le_refl _, fun _ => rfl⟩ ?_
  rintro x fr st ⟨h0, h1, hx, hx0⟩
  simp -dsimp only [↓R0, RA, simprocAttr, h0]
  apply hIf_d <;> intro hc
  · obtain ⟨_, g1, r, n, rfl, _, g3⟩ := s53 (s := x) (by omega)
    have g3 := g3 (by omega)
    simp -dsimp only [↓R0, RA, simprocAttr, h0, h1, hCall_g g1]
    refine hLoop_i (fun q : Nat => set.size - q) (fun q fr' st' => fr' 0 = .str x ∧ fr' 1 = .str set ∧ fr' 5 = .int .i32 r ∧ fr' 6 = .int .i64 n ∧ (∃ b : Bool, fr' 7 = .bool b) ∧ fr' 19 = .ptr st.length 0 0 ∧ st'[st.length]? = some (.iter set q)) 0 ⟨(by first | trivial | (simp -dsimp only [R1, simprocAttr, h0]; done) | rfl), (by first | trivial | (simp -dsimp only [R1, simprocAttr, h1]; done) | rfl), (by first | trivial | (simp -dsimp only [R1, simprocAttr]; done) | rfl), (by first | trivial | (simp -dsimp only [R1, simprocAttr]; done) | rfl), ⟨false, (by first | trivial | (simp -dsimp only [R1, simprocAttr]; done) | rfl)⟩, (by first | trivial | (simp -dsimp only [R1, simprocAttr]; done) | rfl), by rw [app_get0]; rfl⟩ ?_
    rintro q fr2 st2 ⟨e0, e1, e5, e6, ⟨b, e7⟩, e19, eq⟩
    simp -dsimp only [↓R0, RA, simprocAttr, e19, eq]
    by_cases hq : q < set.size
    · have hw2 := width_pos set q
      have f1 : (st2.set st.length (.iter set (q + (Utf8.decode set q).2)))[st.length]? = some (.iter set (q + (Utf8.decode set q).2)) := get_set_eq eq
      cases b with
      | true =>
        simp -dsimp only [↓R0, RA, simprocAttr, hq, e7]
        exact ⟨q + (Utf8.decode set q).2, by omega, (by first | trivial | (simp -dsimp only [R1, simprocAttr, e0]; done) | rfl), (by first | trivial | (simp -dsimp only [R1, simprocAttr, e1]; done) | rfl), (by first | trivial | (simp -dsimp only [R1, simprocAttr, e5]; done) | rfl), (by first | trivial | (simp -dsimp only [R1, simprocAttr, e6]; done) | rfl), ⟨true, (by first | trivial | (simp -dsimp only [R1, simprocAttr]; done) | rfl)⟩, (by first | trivial | (simp -dsimp only [R1, simprocAttr, e19]; done) | rfl), f1⟩
      | false =>
        simp -dsimp only [↓R0, RA, simprocAttr, hq, e7, e5]
        exact ⟨q + (Utf8.decode set q).2, by omega, (by first | trivial | (simp -dsimp only [R1, simprocAttr, e0]; done) | rfl), (by first | trivial | (simp -dsimp only [R1, simprocAttr, e1]; done) | rfl), (by first | trivial | (simp -dsimp only [R1, simprocAttr, e5]; done) | rfl), (by first | trivial | (simp -dsimp only [R1, simprocAttr, e6]; done) | rfl), ⟨_, (by first | trivial | (simp -dsimp only [R1, simprocAttr]; done) | rfl)⟩, (by first | trivial | (simp -dsimp only [R1, simprocAttr, e19]; done) | rfl), f1⟩
    · simp -dsimp only [↓R0, RA, simprocAttr, hq, e7, un]
      refine hIf_b (fun hb => ?_) (fun hb => ?_)
      rotate_left
      · simp -dsimp only [↓R0, RA, simprocAttr, hb, e0]
        exact ⟨_, fz_0 (by simp only [refs]), _, rfl, hx, hx0⟩
      · have w1 : IntKind.i64.wrap ((x.size : Int) - n) = (x.size : Int) - n := by rw [w64] <;> omega
        have hsl : sliceT (.str x) none (some (.int .i64 ((x.size : Int) - n))) = some (.str (x.extract 0 ((x.size : Int) - n).toNat)) := slT_hi (by omega) (by omega)
        have hsz : (x.extract 0 ((x.size : Int) - n).toNat).size = ((x.size : Int) - n).toNat := by rw [ByteArray.size_extract]; omega
        simp -dsimp only [↓R0, RA, simprocAttr, hb, e0, e6, w1, hsl]
        exact ⟨x.extract 0 ((x.size : Int) - n).toNat, by omega, (by first | trivial | (simp -dsimp only [R1, simprocAttr]; done) | rfl), (by first | trivial | (simp -dsimp only [R1, simprocAttr, e1]; done) | rfl), by omega, fun h => by omega⟩
  · simp -dsimp only [↓R0, RA, simprocAttr, h0]
    exact ⟨_, fz_0 (by simp only [refs]), _, rfl, hx, hx0⟩
def rowsS (l : List ByteArray) : List D := l.map .str
theorem rowsS_len {l : List ByteArray} : (rowsS l).length = l.length := by simp [rowsS]
theorem rowsS_get {l : List ByteArray} {i : Nat} (h : i < l.length) : (rowsS l)[i]? = some (.str l[i]) := by
  unfold rowsS
  rw [List.getElem?_map, List.getElem?_eq_getElem h]; rfl
theorem rowsS_refs {l : List ByteArray} : refsL (rowsS l) = [] := by
  induction l with
  | nil => rfl
  | cons s l ih => simp only [rowsS, List.map_cons, refsL, refs] at ih ⊢; rw [ih]; rfl
theorem sl_refs {n : Nat} {cs : List D} {d : D} (h : Sl n cs d) (hc : refsL cs = []) : refs d = [] := by
  rcases h with ⟨rfl, _⟩ | ⟨rfl, _⟩ | rfl
  · simp only [refs]
  · simp only [refs]
  · simp only [refs, hc]
theorem Sl.tail {l : List ByteArray} {d : D} (h : Sl l.length (rowsS l) d) (h1 : 1 ≤ l.length) {k : IntKind} : ∃ d', sliceL 1 d (some (.int k 1)) none = some d' ∧ Sl l.tail.length (rowsS l.tail) d' := by
  rcases h with ⟨_, h, _⟩ | ⟨_, h, _⟩ | rfl
  · omega
  · omega
  · refine ⟨.fsl l.tail.length (rowsS l.tail), ?_, .inr (.inr rfl)⟩
    have e1 : ((rowsS l).drop (1 * 1)).take ((l.length - 1) * 1) = rowsS l.tail := by
      rw [Nat.mul_one, Nat.mul_one, List.take_of_length_le (by rw [List.length_drop, rowsS_len]; exact Nat.le_refl _), rowsS, rowsS, ← List.map_drop, List.drop_one]
    have e2 : (0 : Int) ≤ 1 ∧ (1 : Int) ≤ (l.length : Nat) := by omega
    simp only [sliceL, bound, e2, if_true, and_self]
    rw [show (1 : Int).toNat = 1 from rfl, e1, List.length_tail]
structure Opts (l : List ByteArray) (set : ByteArray) (o : ByteArray) (r : List ByteArray) (ok : Bool) : Prop where
  suf : ∃ n, r = l.drop n
  none : (∀ s, l.head? = some s → s.size ≤ 1 ∨ atB s 0 ≠ 45) → ok = true ∧ o = emS ∧ r = l
  len : o.size ≤ (l.map ByteArray.size).sum
set_option maxHeartbeats 2000000 in
theorem s17 {l : List ByteArray} {set : ByteArray} {d : D} (hd : Sl l.length (rowsS l) d) (hset : set.size ≤ 1000) (hsz : (l.map ByteArray.size).sum ≤ 100000) :
    ∃ d', Gives C TP 17 [d, .str set] d' ∧ ∃ o r dr ok, d' = .tup [.str o, dr, .bool ok] ∧ (ok = true → Sl r.length (rowsS r) dr) ∧ Opts l set o r ok := by
  refine frz_ex rfl rfl (by simp only [refsL, sl_refs hd rowsS_refs, refs, List.append_nil]) (body_h b17 (by show 2 ≤ 49; decide) ?_)
  have fin : ∀ (st : Store) (o : ByteArray) (dr : D) (r : List ByteArray) (ok : Bool), refs dr = [] → (ok = true → Sl r.length (rowsS r) dr) → Opts l set o r ok → ∃ d', fz st 8 (.tup [.str o, dr, .bool ok]) = some d' ∧ ∃ o r dr ok, d' = .tup [.str o, dr, .bool ok] ∧ (ok = true → Sl r.length (rowsS r) dr) ∧ Opts l set o r ok :=
    fun st o dr r ok h1 h2 h3 => ⟨_, fz_0 (by simp only [refs, refsL, h1, List.append_nil]), o, r, dr, ok, rfl, h2, h3⟩
  simp -dsimp only [↓R0, RA, simprocAttr]
  refine hLoop_i (fun x : List ByteArray × ByteArray => x.1.length) (fun x fr' st' => (∃ d', fr' 0 = d' ∧ Sl x.1.length (rowsS x.1) d') ∧ fr' 1 = .str set ∧ fr' 7 = .str x.2 ∧ (∃ n, x.1 = l.drop n ∧ (n = 0 → x.2 = emS) ∧ (n ≠ 0 → ∃ s, l.head? = some s ∧ 1 < s.size ∧ atB s 0 = 45)) ∧ x.2.size + (x.1.map ByteArray.size).sum ≤ (l.map ByteArray.size).sum) (l, emS) ⟨⟨_, rfl, hd⟩, rfl, rfl, ⟨0, rfl, fun _ => rfl, fun h => absurd rfl h⟩, by have : emS.size = 0 := rfl; simp only [this]; omega⟩ ?_
  rintro ⟨l', o⟩ fr st ⟨⟨d', h0, hd'⟩, h1, h7, ⟨n, hn, hn0, hn1⟩, hsum⟩
  simp only [] at hd' h7 hn hn0 hsum
  simp -dsimp only [↓R0, RA, simprocAttr, h0, hd'.lnV]
  have none' : (¬ (∃ s, l'.head? = some s ∧ 1 < s.size ∧ atB s 0 = 45)) → Opts l set o l' true := by
    intro h
    refine ⟨⟨n, hn⟩, fun h2 => ?_, by omega⟩
    by_cases hz : n = 0
    · subst hz
      exact ⟨rfl, hn0 rfl, by rw [hn]; rfl⟩
    · obtain ⟨s, g1, g2, g3⟩ := hn1 hz
      rcases h2 s g1 with h3 | h3
      · omega
      · exact absurd g3 h3
  have hex : (∃ s, l'.head? = some s ∧ 1 < s.size ∧ atB s 0 = 45) → ∃ s, l.head? = some s ∧ 1 < s.size ∧ atB s 0 = 45 := by
    intro h
    by_cases hz : n = 0
    · subst hz; rw [hn] at h; exact h
    · exact hn1 hz
  have rdone : ∀ st, Opts l set o l' true → ∃ d0, fz st 8 (.tup [.str o, d', .bool true]) = some d0 ∧ ∃ o r dr ok, d0 = .tup [.str o, dr, .bool ok] ∧ (ok = true → Sl r.length (rowsS r) dr) ∧ Opts l set o r ok := fun st h => fin st o d' l' true (sl_refs hd' rowsS_refs) (fun _ => hd') h
  apply hIf_d <;> intro hc
  · cases l' with
    | nil => simp at hc
    | cons s0 l2 =>
      have hi : idxS 1 d' (.int .i64 0) = some (.fptr (rowsS (s0 :: l2)) 0) := by rw [hd'.ix (by omega) (by simp)]; rfl
      have hg0 : (rowsS (s0 :: l2))[0]? = some (.str s0) := rfl
      have hle0 : s0.size ≤ 100000 := by simp at hsum; omega
      have hcl : ((0 : Int) < ((l2.length + 1 : Nat) : Int)) := by omega
      simp -dsimp only [↓R0, RA, simprocAttr, hc, hcl, h0, hi, hg0]
      apply hIf_d <;> intro hc1
      · have hc2 : 1 < s0.size := by omega
        have hx0 : idxT (.str s0) (.int .i64 0) = some (.int .u8 (atB s0 0).toNat) := ixT_of (by omega) (by omega)
        simp -dsimp only [↓R0, RA, simprocAttr, hc1, h0, hi, hg0, hx0]
        apply hIf_d <;> intro hc3
        · have h45 : atB s0 0 = 45 := by
            apply UInt8.toNat_inj.1
            have : (45 : UInt8).toNat = 45 := rfl
            omega
          have hsl : sliceT (.str s0) (some (.int .i64 1)) none = some (.str (s0.extract 1 s0.size)) := slT_lo (by omega) (by omega)
          obtain ⟨d2, hs2, hd2⟩ := hd'.tail (k := .i64) (by simp)
          simp only [List.tail_cons] at hs2 hd2
          have hsz1 : (s0.extract 1 s0.size).size = s0.size - 1 := by rw [ByteArray.size_extract]; omega
          have hn' : l2 = l.drop (n + 1) := by rw [← List.drop_drop, ← hn]; rfl
          simp only [List.map_cons, List.sum_cons] at hsum
          simp -dsimp only [↓R0, RA, simprocAttr, h0, hi, hg0, hsl, hs2]
          apply hIf_d <;> intro hc4
          · simp -dsimp only [↓R0, RA, simprocAttr, decide_eq_true hc4, h7]
            refine fin _ _ _ l2 true (sl_refs hd2 rowsS_refs) (fun _ => hd2) ⟨⟨n + 1, hn'⟩, fun h2 => ?_, by omega⟩
            obtain ⟨s, g1, g2, g3⟩ := hex ⟨s0, rfl, hc2, h45⟩
            rcases h2 s g1 with h3 | h3
            · omega
            · exact absurd g3 h3
          · obtain ⟨_, k1, r1, rfl, k2⟩ := s35 (s := s0.extract 1 s0.size) (set := set) (by omega) (by omega)
            obtain ⟨_, k3, r2, rfl, k4, _⟩ := s34 (s := r1) (set := set) (by omega) (by omega)
            simp -dsimp only [↓R0, RA, simprocAttr, decide_eq_false hc4, h1, hCall_g k1, hCall_g k3]
            have hbad : ∀ st, ∃ d0, fz st 8 (.tup [.str ⟨#[]⟩, .nils, .bool false]) = some d0 ∧ ∃ o r dr ok, d0 = .tup [.str o, dr, .bool ok] ∧ (ok = true → Sl r.length (rowsS r) dr) ∧ Opts l set o r ok := fun st =>
              fin st _ .nils l2 false (by simp only [refs]) (fun h => by cases h) ⟨⟨n + 1, hn'⟩, fun h2 => by
                obtain ⟨s, g1, g2, g3⟩ := hex ⟨s0, rfl, hc2, h45⟩
                rcases h2 s g1 with h3 | h3
                · omega
                · exact absurd g3 h3, Nat.zero_le _⟩
            apply hIf_d <;> intro hc5
            · simp -dsimp only [↓R0, RA, simprocAttr, decide_eq_true hc5, h1]
              apply hIf_d <;> intro hc6
              · simp -dsimp only [↓R0, RA, simprocAttr, decide_eq_true hc6]
                exact hbad _
              · have hadd : binM 0 .add (.str o) (.str (s0.extract 1 s0.size)) = some (.str (o ++ s0.extract 1 s0.size)) := s_add (by omega)
                simp -dsimp only [↓R0, RA, simprocAttr, decide_eq_false hc6, h7, hadd]
                refine ⟨(l2, o ++ s0.extract 1 s0.size), by simp, ⟨d2, (by first | trivial | (simp -dsimp only [R1, simprocAttr]; done) | rfl), hd2⟩, (by first | trivial | (simp -dsimp only [R1, simprocAttr, h1]; done) | rfl), (by first | trivial | (simp -dsimp only [R1, simprocAttr]; done) | rfl), ⟨n + 1, hn', fun h => by omega, fun _ => hex ⟨s0, rfl, hc2, h45⟩⟩, ?_⟩
                simp only [ByteArray.size_append]
                omega
            · simp -dsimp only [↓R0, RA, simprocAttr, decide_eq_false hc5]
              exact hbad _
        · simp -dsimp only [↓R0, RA, simprocAttr, h7, h0]
          exact rdone _ (none' (by
            rintro ⟨s, g1, _, g3⟩
            injection g1 with g1
            subst g1
            rw [g3] at hc3
            exact hc3 rfl))
      · simp -dsimp only [↓R0, RA, simprocAttr, hc1, h7, h0]
        exact rdone _ (none' (by
          rintro ⟨s, g1, g2, _⟩
          injection g1 with g1
          subst g1
          omega))
  · have hnil : l' = [] := List.eq_nil_of_length_eq_zero (by omega)
    simp -dsimp only [↓R0, RA, simprocAttr, hc, h7, h0]
    exact rdone _ (none' (by rintro ⟨s, g1, _⟩; rw [hnil] at g1; cases g1))
end
section
abbrev wc (t : Tr) (cwd : Int) (o : ByteArray) (a b : D) (s : Int) : List D := [t.nd, .int .i64 t.mx, .int .i64 t.mb, .int .i64 cwd, .str o, a, b, .int .i64 s]
def Lft (w : Nat) (st st' : Store) : Prop := st.length ≤ st'.length ∧ ∀ i, i < st.length → i ≠ w → st'[i]? = st[i]?
theorem Lft.refl {w : Nat} {st : Store} : Lft w st st := ⟨Nat.le_refl _, fun _ _ _ => rfl⟩
theorem Lft.trans {w : Nat} {st st1 st2 : Store} (h : Lft w st st1) (h' : Lft w st1 st2) : Lft w st st2 :=
  ⟨Nat.le_trans h.1 h'.1, fun i hi hw => (h'.2 i (Nat.lt_of_lt_of_le hi h.1) hw).trans (h.2 i hi hw)⟩
theorem Lft.app {w : Nat} {st g : Store} : Lft w st (st ++ g) := ⟨by simp, fun i hi _ => List.getElem?_append_left hi⟩
theorem Lft.set {w : Nat} {st : Store} {b : Blk} : Lft w st (st.set w b) := ⟨by simp, fun i hi hw => get_set_ne hw⟩
theorem Lft.get {w i : Nat} {st st' : Store} {b : Blk} (h : Lft w st st') (hi : st[i]? = some b) (hw : i ≠ w) : st'[i]? = some b := by rw [h.2 i (get_lt hi) hw]; exact hi
variable {t t' : Tr} {cwd s : Int} {o : ByteArray} {a b : D} {w : Nat} {st : Store}
theorem d45 (hw : st[w]? = some (.cells 0 true 57 (wc t cwd o a b s))) : CallW C TP 45 [.ptr w 0 0, t'.d, .int .i64 0] st fun d st' => d = .bool true ∧ st'[w]? = some (.cells 0 true 57 (wc t' cwd o a b s)) ∧ Lft w st st' := by
  refine call_th rfl rfl (body_h b45 (by show 3 ≤ 16; decide) ?_)
  simp -dsimp only [↓R0, RA, simprocAttr, RQ, get_app hw, ld24]
  exact ⟨by first | trivial | rfl, get_set_eq (get_app hw), Lft.app.trans Lft.set⟩
theorem d45e {e : Int} {d0 : D} (he : e ≠ 0) (hc : D.cells? d0 = some t'.c) (hw : st[w]? = some (.cells 0 true 57 (wc t cwd o a b s))) : CallW C TP 45 [.ptr w 0 0, d0, .int .i64 e] st fun d st' => d = .bool false ∧ st'[w]? = some (.cells 0 true 57 (wc t cwd o a b 1)) ∧ Lft w st st' := by
  refine call_th rfl rfl (body_h b45 (by show 3 ≤ 16; decide) ?_)
  simp -dsimp only [↓R0, RA, simprocAttr, RQ, hc, decide_eq_false he, get_app hw, ld24]
  exact ⟨by first | trivial | rfl, get_set_eq (get_app hw), Lft.app.trans Lft.set⟩
theorem d61 {k : Int} (hw : st[w]? = some (.cells 0 true 57 (wc t cwd o a b s))) : CallW C TP 61 [.ptr w 0 0, t'.d, .int .i64 k, .int .i64 0] st fun d st' => d = .bool true ∧ st'[w]? = some (.cells 0 true 57 (wc t' cwd o a b s)) ∧ Lft w st st' := by
  refine call_th rfl rfl (body_h b61 (by show 4 ≤ 13; decide) ?_)
  simp -dsimp only [↓R0, RA, simprocAttr, RQ, ld24]
  refine hCall_c (d45 (get_app hw)) ?_
  rintro _ st' ⟨rfl, h1, h2⟩
  simp -dsimp only [↓R0, RA, simprocAttr]
  exact ⟨by first | trivial | rfl, h1, Lft.app.trans h2⟩
theorem d61e {e k : Int} (he : e ≠ 0) (hw : st[w]? = some (.cells 0 true 57 (wc t cwd o a b s))) : CallW C TP 61 [.ptr w 0 0, t'.d, .int .i64 k, .int .i64 e] st fun d st' => d = .bool false ∧ st'[w]? = some (.cells 0 true 57 (wc t cwd o a b 1)) ∧ Lft w st st' := by
  refine call_th rfl rfl (body_h b61 (by show 4 ≤ 13; decide) ?_)
  simp -dsimp only [↓R0, RA, simprocAttr, RQ, ld24]
  refine hCall_c (d45e he rfl (get_app hw)) ?_
  rintro _ st' ⟨rfl, h1, h2⟩
  simp -dsimp only [↓R0, RA, simprocAttr]
  exact ⟨by first | trivial | rfl, h1, Lft.app.trans h2⟩
theorem d58 {p : ByteArray} {f : Bool} (hT : T t) (hp : p.size ≤ 1000000) (hw : st[w]? = some (.cells 0 true 57 (wc t cwd o a b s))) : Does1 C TP 58 [.ptr w 0 0, .str p, .bool f] st (.tup [.int .i64 (t.walk cwd p f).1, .bool (decide ((t.walk cwd p f).2 = 0))]) st := by
  refine does_of (call_th rfl rfl (body_h b58 (by show 3 ≤ 27; decide) ?_))
  simp -dsimp only [↓R0, RA, simprocAttr, hw, ld24, hCall_g (s96 hT (show p.size ≤ 9223372036854775807 by omega))]
theorem d40 {p : ByteArray} (hT : T t) (hp : p.size ≤ 1000000) (hw : st[w]? = some (.cells 0 true 57 (wc t cwd o a b s))) : Does1 C TP 40 [.ptr w 0 0, .str p] st (.bool (decide ((t.walk cwd p true).2 = 0 ∧ (t.at (t.walk cwd p true).1).kind = 2))) st := by
  refine does_of (call_th rfl rfl (body_h b40 (by show 2 ≤ 26; decide) ?_))
  simp -dsimp only [↓R0, RA, simprocAttr, hCall_d (d58 hT hp hw)]
  apply hIf_d <;> intro h
  · have hl := hT.walk_live h
    simp -dsimp only [↓R0, RA, simprocAttr, h, hw, ld24, Tr.ixh hT.ok hl.1, Tr.c0 hl.1]
    exact ⟨by simp [h], by first | trivial | rfl⟩
  · simp -dsimp only [↓R0, RA, simprocAttr, h]
    exact ⟨by simp [h], by first | trivial | rfl⟩
def hasO (o : ByteArray) (c : Int) : Bool := decide (0 ≤ ixB (bl o) (UInt8.ofNat c.toNat) 0)
theorem d18 {c : Int} (hw : st[w]? = some (.cells 0 true 57 (wc t cwd o a b s))) : Does1 C TP 18 [.ptr w 0 0, .int .u8 c] st (.bool (hasO o c)) st := by
  refine does_of (call_th rfl rfl (body_h b18 (by show 2 ≤ 12; decide) ?_))
  simp -dsimp only [↓R0, RA, simprocAttr, hw, hCall_g s36]
  exact ⟨by first | trivial | rfl, by first | trivial | rfl⟩
theorem made_kept {p : ByteArray} {m : Int} {k dd : Nat} {nm : ByteArray} {x : Int → Ino} {dirs : Bool} {room : Int} (hT : T t) (h1 : t.fresh cwd p dirs = ((dd : Int), nm, 0)) (h2 : k < t.nodes.length ∧ (t.at (k : Int)).kind = 0) (h3 : t.dir (dd : Int)) (h4 : t.kid (dd : Int) nm = -1) (h5 : NameOk nm)
    (h6 : room ≤ t.mb - t.sum) (h7 : (t.at (dd : Int)).kids.length < 1024) (h8 : Plus t t' dd k nm ⟨(x dd).kind, (x dd).mode, 1, (x dd).data, [], (x dd).up⟩) (hx : AloneV ⟨(x dd).kind, (x dd).mode, 1, (x dd).data, [], (x dd).up⟩) (hx0 : (x dd).kind ≠ 0) (hxd : ((x dd).data.size : Int) = room) (hxs : (x dd).data.size ≤ 65536) (hxu : (x dd).kind = 2 → (x dd).up = dd) : Kept t cwd t' :=
  Plus.kept hT h8 h3 h2 h4 h5 h7 hx hx0 hxs hxu (by omega)
theorem aloneF {m : Int} {d : Int} (hm : 0 ≤ m ∧ m ≤ 7) : AloneV ⟨(mkF m d).kind, (mkF m d).mode, 1, (mkF m d).data, [], (mkF m d).up⟩ :=
  ⟨fun q => absurd (show (1 : Int) = 0 from q) (by decide), fun _ => hm, fun _ => ⟨rfl, rfl⟩, fun q => absurd (show (1 : Int) = 3 from q) (by decide), fun q => rfl, .inr (.inl rfl)⟩
theorem aloneD {m : Int} {d : Int} (hm : 0 ≤ m ∧ m ≤ 7) : AloneV ⟨(mkD m d).kind, (mkD m d).mode, 1, (mkD m d).data, [], (mkD m d).up⟩ :=
  ⟨fun q => absurd (show (2 : Int) = 0 from q) (by decide), fun _ => hm, fun q => absurd (show (2 : Int) = 1 from q) (by decide), fun q => absurd (show (2 : Int) = 3 from q) (by decide), fun q => rfl, .inr (.inr (.inl rfl))⟩
def NewF (t t' : Tr) (cwd : Int) (p : ByteArray) (m : Int) (k : Nat) : Prop := ∃ (dd : Nat) (nm : ByteArray), t.fresh cwd p false = ((dd : Int), nm, 0) ∧ (k < t.nodes.length ∧ (t.at (k : Int)).kind = 0) ∧ t.dir (dd : Int) ∧ t.kid (dd : Int) nm = -1 ∧ NameOk nm ∧ Plus t t' dd k nm ⟨1, m, 1, emS, [], 0⟩
theorem s77k {p : ByteArray} {m : Int} (hT : T t) (hp : p.size ≤ 1000000) (hm : 0 ≤ m ∧ m ≤ 7) : (∃ e : Int, e ≠ 0 ∧ Gives C TP 77 [t.d, .int .i64 cwd, .str p, .int .i64 m] (.tup [t.d, .int .i64 0, .int .i64 e])) ∨
    ∃ (t' : Tr) (k : Nat), Gives C TP 77 [t.d, .int .i64 cwd, .str p, .int .i64 m] (.tup [t'.d, .int .i64 k, .int .i64 0]) ∧ Kept t cwd t' ∧ NewF t t' cwd p m k := by
  obtain ⟨d, hg, h⟩ := s77 (cwd := cwd) (p := p) hT (by omega) hm
  rcases h with ⟨e, he, rfl⟩ | ⟨t', k, dd, nm, rfl, h1, h2, h3, h4, h5, h6, h7, h8⟩
  · exact .inl ⟨e, he, hg⟩
  · exact .inr ⟨t', k, hg, made_kept (p := p) (m := m) (x := mkF m) hT h1 h2 h3 h4 h5 h6 h7 h8 (aloneF hm) (by show (1 : Int) ≠ 0; decide) rfl (by show emS.size ≤ 65536; decide) (fun q => absurd (show (1 : Int) = 2 from q) (by decide)), dd, nm, h1, h2, h3, h4, h5, h8⟩
theorem s67k {p : ByteArray} {m : Int} (hT : T t) (hp : p.size ≤ 1000000) (hm : 0 ≤ m ∧ m ≤ 7) : (∃ e : Int, e ≠ 0 ∧ Gives C TP 67 [t.d, .int .i64 cwd, .str p, .int .i64 m] (.tup [t.d, .int .i64 0, .int .i64 e])) ∨
    ∃ (t' : Tr) (k : Nat), Gives C TP 67 [t.d, .int .i64 cwd, .str p, .int .i64 m] (.tup [t'.d, .int .i64 k, .int .i64 0]) ∧ Kept t cwd t' := by
  obtain ⟨d, hg, h⟩ := s67 (cwd := cwd) (p := p) hT (by omega) hm
  rcases h with ⟨e, he, rfl⟩ | ⟨t', k, dd, nm, rfl, h1, h2, h3, h4, h5, h6, h7, h8⟩
  · exact .inl ⟨e, he, hg⟩
  · exact .inr ⟨t', k, hg, made_kept (p := p) (m := m) (x := mkD m) hT h1 h2 h3 h4 h5 h6 h7 h8 (aloneD hm) (by show (2 : Int) ≠ 0; decide) rfl (by show emS.size ≤ 65536; decide) (fun _ => rfl)⟩
theorem Kept.refl (hT : T t) : Kept t cwd t := ⟨hT, id⟩
theorem Kept.trans {t1 t2 : Tr} (h : Kept t cwd t1) (h' : Kept t1 cwd t2) : Kept t cwd t2 := ⟨h'.1, fun x => h'.2 (h.2 x)⟩
def Wrk (t : Tr) (cwd : Int) (o : ByteArray) (a b : D) (s : Int) (w : Nat) (st st' : Store) (R : Tr → Int → Prop) : Prop :=
  ∃ t' s', st'[w]? = some (.cells 0 true 57 (wc t' cwd o a b s')) ∧ Kept t cwd t' ∧ (s' = s ∨ s' = 1) ∧ Lft w st st' ∧ R t' s'
theorem d48 {p : ByteArray} (hT : T t) (hp : p.size ≤ 1000000) (hw : st[w]? = some (.cells 0 true 57 (wc t cwd o a b s))) :
    CallW C TP 48 [.ptr w 0 0, .str p] st fun _ st' => Wrk t cwd o a b s w st st' fun t' s' => ((t.walk cwd p true).2 = 0 ∧ t' = t ∧ s' = s) ∨ ((t.walk cwd p true).2 ≠ 0 ∧ ((t' = t ∧ s' = 1) ∨ (s' = s ∧ ∃ k, NewF t t' cwd p 6 k))) := by
  refine call_th rfl rfl (body_h b48 (by show 2 ≤ 29; decide) ?_)
  simp -dsimp only [↓R0, RA, simprocAttr, hCall_d (d58 hT hp hw), un]
  apply hIf_d <;> intro h
  · simp -dsimp only [↓R0, RA, simprocAttr]
    exact ⟨t, s, hw, .refl hT, .inl rfl, .refl, .inl ⟨h, rfl, rfl⟩⟩
  · rcases s77k (cwd := cwd) (p := p) (m := 6) hT hp (by decide) with ⟨e, he, hg⟩ | ⟨t', k, hg, hk, hn⟩
    · simp -dsimp only [↓R0, RA, simprocAttr, hw, ld24, hCall_g hg]
      refine hCall_c (d61e he hw) ?_
      rintro _ st' ⟨rfl, h1, h2⟩
      simp -dsimp only [↓R0, RA, simprocAttr]
      exact ⟨t, 1, h1, .refl hT, .inr rfl, h2, .inr ⟨h, .inl ⟨rfl, rfl⟩⟩⟩
    · simp -dsimp only [↓R0, RA, simprocAttr, hw, ld24, hCall_g hg]
      refine hCall_c (d61 hw) ?_
      rintro _ st' ⟨rfl, h1, h2⟩
      simp -dsimp only [↓R0, RA, simprocAttr]
      exact ⟨t', s, h1, hk, .inl rfl, h2, .inr ⟨h, .inr ⟨rfl, k, hn⟩⟩⟩
end
section
variable {t t' : Tr} {cwd s : Int} {o : ByteArray} {a b : D} {w : Nat} {st : Store}
def GoneP (t t' : Tr) (cwd : Int) (p : ByteArray) : Prop := ∃ (k dd : Nat) (nm : ByteArray), (t.named cwd p).2 = 0 ∧ (t.named cwd p).1 = ⟨dd, nm, k⟩ ∧ ((t.at (k : Int)).kind = 2 → (t.at (k : Int)).kids = [] ∧ (k : Int) ≠ cwd) ∧ Minus t t' dd k nm
theorem GoneP.kept {p : ByteArray} (hT : T t) (h : GoneP t t' cwd p) : Kept t cwd t' := by
  obtain ⟨k, dd, nm, h1, h2, h3, h4⟩ := h
  obtain ⟨d', k', nm', e1, _, hd, _, _, hl, _, _, hent⟩ := hT.named_ok h1
  rw [h2] at e1
  injection e1 with e1 e2 e3
  have q1 : dd = d' := by omega
  have q3 : k = k' := by omega
  subst q1 q3 e2
  exact h4.kept hT hd hl hent h3
theorem s76k {p : ByteArray} (hT : T t) (hp : p.size ≤ 1000000) : (∃ e : Int, e ≠ 0 ∧ Gives C TP 76 [t.d, .int .i64 cwd, .str p] (.tup [t.d, .int .i64 e])) ∨ ∃ t', Gives C TP 76 [t.d, .int .i64 cwd, .str p] (.tup [t'.d, .int .i64 0]) ∧ Kept t cwd t' ∧ GoneP t t' cwd p := by
  obtain ⟨d, hg, h⟩ := s76 (cwd := cwd) (p := p) hT (by omega)
  rcases h with ⟨e, he, rfl⟩ | ⟨t', k, dd, nm, rfl, h1, h2, h3, h4⟩
  · exact .inl ⟨e, he, hg⟩
  · have hG : GoneP t t' cwd p := ⟨k, dd, nm, h1, h2, fun q => absurd q h3, h4⟩
    exact .inr ⟨t', hg, hG.kept hT, hG⟩
theorem s46k {p : ByteArray} (hT : T t) (hp : p.size ≤ 1000000) : (∃ e : Int, e ≠ 0 ∧ Gives C TP 46 [t.d, .int .i64 cwd, .str p] (.tup [t.d, .int .i64 e])) ∨ ∃ t', Gives C TP 46 [t.d, .int .i64 cwd, .str p] (.tup [t'.d, .int .i64 0]) ∧ Kept t cwd t' ∧ GoneP t t' cwd p := by
  obtain ⟨d, hg, h⟩ := s46 (cwd := cwd) (p := p) hT (by omega)
  rcases h with ⟨e, he, rfl⟩ | ⟨t', k, dd, nm, rfl, h1, h2, h3, h4⟩
  · exact .inl ⟨e, he, hg⟩
  · have hG : GoneP t t' cwd p := ⟨k, dd, nm, h1, h2, fun q => ⟨h3.2.1, h3.2.2⟩, h4⟩
    exact .inr ⟨t', hg, hG.kept hT, hG⟩
theorem d75 {x : Nat} {r : Bool} (hx : st[x]? = some (.cells 0 r 51 [.ptr w 0 0])) (hw : st[w]? = some (.cells 0 true 57 (wc t cwd o a b s))) :
    CallW C TP 75 [t'.d, .int .i64 0, .ptr x 0 0] st fun d st' => st'[w]? = some (.cells 0 true 57 (wc t' cwd o a b s)) ∧ Lft w st st' := by
  refine call_th rfl rfl (body_h b75 (by show 3 ≤ 16; decide) ?_)
  have e2 : ¬ ((0 : Int) = 2) := by decide
  simp -dsimp only [↓R0, RA, simprocAttr, RQ, e2, get_app hx, ld24]
  refine hCall_c (d45 (get_app hw)) ?_
  rintro _ st' ⟨rfl, h1, h2⟩
  simp -dsimp only [↓R0, RA, simprocAttr]
  exact ⟨h1, Lft.app.trans h2⟩
theorem d75e {x : Nat} {r : Bool} {e : Int} (he : e ≠ 0) (hx : st[x]? = some (.cells 0 r 51 [.ptr w 0 0])) (hw : st[w]? = some (.cells 0 true 57 (wc t cwd o a b s))) :
    CallW C TP 75 [t'.d, .int .i64 e, .ptr x 0 0] st fun d st' => ∃ s', st'[w]? = some (.cells 0 true 57 (wc t cwd o a b s')) ∧ (s' = 1 ∨ (s' = s ∧ hasO o 102 = true)) ∧ Lft w st st' := by
  refine call_th rfl rfl (body_h b75 (by show 3 ≤ 16; decide) ?_)
  simp -dsimp only [↓R0, RA, simprocAttr, RQ]
  apply hIf_d <;> intro h
  · simp -dsimp only [↓R0, RA, simprocAttr, RQ, decide_eq_true h, get_app hx, hCall_d (d18 (get_app hw)), un]
    refine hIf_b (fun hb => ?_) (fun hb => ?_)
    · simp -dsimp only [↓R0, RA, simprocAttr, RQ, hb]
      exact ⟨s, get_app hw, .inr ⟨rfl, by first | trivial | exact hb⟩, Lft.app⟩
    · simp -dsimp only [↓R0, RA, simprocAttr, RQ, hb, get_app hx, ld24]
      refine hCall_c (d45e he rfl (get_app hw)) ?_
      rintro _ st' ⟨rfl, h1, h2⟩
      simp -dsimp only [↓R0, RA, simprocAttr]
      exact ⟨1, h1, .inl rfl, Lft.app.trans h2⟩
  · simp -dsimp only [↓R0, RA, simprocAttr, RQ, decide_eq_false h, get_app hx, ld24]
    refine hCall_c (d45e he rfl (get_app hw)) ?_
    rintro _ st' ⟨rfl, h1, h2⟩
    simp -dsimp only [↓R0, RA, simprocAttr]
    exact ⟨1, h1, .inl rfl, Lft.app.trans h2⟩
theorem joinP_gt {p nm : ByteArray} (hp : p ≠ emS) (hn : NameOk nm) : p.size < (joinP p nm).size ∧ (joinP p nm).size ≤ p.size + 1 + nm.size := by
  have hn' := nameOk_iff.1 hn
  have hw : ¬ whole nm := by
    intro h
    unfold whole at h
    exact hn'.2.2.2.2.1 (List.mem_of_mem_head? h)
  have hnz : 0 < nm.size := by
    rcases Nat.eq_zero_or_pos nm.size with h | h
    · exact absurd (ByteArray.size_eq_zero_iff.1 h) hn'.1
    · exact h
  have hpz : 0 < p.size := by
    rcases Nat.eq_zero_or_pos p.size with h | h
    · exact absurd (ByteArray.size_eq_zero_iff.1 h) hp
    · exact h
  unfold joinP
  rw [if_neg (by simp [hp, hw]), if_neg hn'.1, sz_ofL, List.length_append, List.length_cons, ← sz]
  have hl : (bl p).length = p.size := (sz (s := p)).symm
  split
  · rw [List.length_dropLast, hl]; omega
  · rw [hl]; omega
theorem fpf42 {st : Store} {ds : List D} : fpC C st (some (.fn 42 [])) (some ds) = .free := fpfrz ⟨rfl, rfl⟩
def RmR (t : Tr) (cwd : Int) (o p : ByteArray) (t' : Tr) (s' : Int) : Prop := hasO o 102 = false → s' ≠ 1 → ∃ t1, Kept t cwd t1 ∧ GoneP t1 t' cwd p
theorem d47s {p : ByteArray} (hT : T t) (hp : p.size ≤ 1000000) (hw : st[w]? = some (.cells 0 true 57 (wc t cwd o a b s)))
    (IH : ∀ {t : Tr} {s : Int} {p' : ByteArray} {st : Store}, p.size ≤ 1024 → p.size < p'.size → T t → p'.size ≤ 1000000 → st[w]? = some (.cells 0 true 57 (wc t cwd o a b s)) → CallW C TP 47 [.ptr w 0 0, .str p'] st fun _ st' => Wrk t cwd o a b s w st st' (RmR t cwd o p')) :
    CallW C TP 47 [.ptr w 0 0, .str p] st fun _ st' => Wrk t cwd o a b s w st st' (RmR t cwd o p) := by
  refine call_th rfl rfl (body_h b47 (by show 2 ≤ 84; decide) ?_)
  have hwl := get_lt hw
  simp -dsimp only [↓R0, RA, simprocAttr, RQ, hCall_d (d58 hT hp (get_app hw)), hCall_d (d18 (get_app hw)), un]
  refine hIf_b (fun hr => ?_) (fun hr => ?_)
  · simp -dsimp only [↓R0, RA, simprocAttr, RQ, hr, un]
    apply hIf_d <;> intro hk
    · have hl := hT.walk_live hk
      simp -dsimp only [↓R0, RA, simprocAttr, RQ, hr, un, decide_eq_true hk, get_app hw, Tr.ixh hT.ok hl.1, Tr.c0 hl.1]
      apply hIf_d <;> intro h2
      · simp -dsimp only [↓R0, RA, simprocAttr, RQ]
        have hps : p ≠ emS ∧ p.size ≤ 1024 := by
          have hb : t.bad cwd p = 0 := by
            unfold Tr.walk at hk
            split at hk
            · rename_i q; exact absurd hk q
            · rename_i q; exact Classical.not_not.1 q
          have := Tr.bad_size hb
          exact ⟨this.1, this.2.2⟩
        have hkd := hT.kds hl.1
        have hdir : t.dir (t.walk cwd p false).1 := ⟨hl.1, h2⟩
        have hnames := (hT.fit.dirs _ hdir).2.2.name
        simp -dsimp only [↓R0, RA, simprocAttr, RQ, get_app hw, Tr.ixh hT.ok hl.1, Tr.c4 hl.1, hkd.lnV]
        refine hLoop_i (fun i : Nat => (t.at (t.walk cwd p false).1).kids.length - i) (fun i fr' st' => fr' 1 = .str p ∧ fr' 2 = .ptr st.length 0 0 ∧ fr' 4 = .fn 75 [.ptr st.length 0 0] ∧ fr' 57 = (t.at (t.walk cwd p false).1).kd ∧ fr' 58 = .int .i64 (t.at (t.walk cwd p false).1).kids.length ∧ fr' 59 = .int .i64 i ∧ i ≤ (t.at (t.walk cwd p false).1).kids.length ∧
          ∃ t1 s1, st'[w]? = some (.cells 0 true 57 (wc t1 cwd o a b s1)) ∧ Kept t cwd t1 ∧ (s1 = s ∨ s1 = 1) ∧ Lft w (st ++ [.cells 0 true 51 [.ptr w 0 0]]) st') 0 ⟨rfl, rfl, rfl, rfl, rfl, rfl, by omega, t, s, get_app hw, .refl hT, .inl rfl, .refl⟩ ?_
        rintro i fr st1 ⟨e1, e2, e4, e57, e58, e59, hi, t1, s1, w1, w2, w3, w4⟩
        have hbox : st1[st.length]? = some (.cells 0 true 51 [.ptr w 0 0]) := w4.get (by rw [app_get0]; rfl) (by omega)
        simp -dsimp only [↓R0, RA, simprocAttr, RQ, e58, e59]
        apply hIf_d <;> intro hc
        · have hil : i < (t.at (t.walk cwd p false).1).kids.length := by omega
          have b1 : (0 : Int) ≤ i := by omega
          have b2 : (i : Int) < ((t.at (t.walk cwd p false).1).kids.length : Nat) := by omega
          have hrow := rowsE_take (l := (t.at (t.walk cwd p false).1).kids) (j := i) (List.getElem?_eq_getElem hil)
          have hle : (i * 2 + 2 ≤ (rowsE (t.at (t.walk cwd p false).1).kids).length) = True := by rw [rowsE_length]; simp; omega
          have hix : idxS 2 (t.at (t.walk cwd p false).1).kd (.int .i64 i) = some (.fptr (rowsE (t.at (t.walk cwd p false).1).kids) (i * 2)) := hkd.ix b1 b2
          have hnm := hnames _ (List.getElem_mem hil)
          obtain ⟨hgt, hle2⟩ := joinP_gt hps.1 hnm
          have hn64 := (nameOk_iff.1 hnm).2.1
          simp -dsimp only [↓R0, RA, simprocAttr, RQ, hc, e57, e59, hix, hrow, hle, Ent.row]
          refine regX_h x47_8 c47_8 ?_
          simp -dsimp only [↓R0, RA, simprocAttr, RQ, ↓R5, R6, e1, e2, get_app hbox, hCall_g (s42 (show p.size ≤ 1000000000 by omega) (show (t.at (t.walk cwd p false).1).kids[i].name.size ≤ 1000000000 by omega))]
          refine hCall_c (IH hps.2 hgt w2.1 (by omega) (get_app w1)) ?_
          rintro _ st2 ⟨t2, s2, v1, v2, v3, v4, _⟩
          simp -dsimp only [↓R0, RA, simprocAttr, RQ, ↓R5, R6, e2]
          refine ⟨by simp only [fpf42, e2, fl_p]; simp [fpOk], ?_⟩
          have hkl := hT.kids_le hl.1
          have hwi : IntKind.i64.wrap ((i : Int) + 1) = ((i + 1 : Nat) : Int) := by rw [w64] <;> omega
          simp -dsimp only [↓R0, RA, simprocAttr, RQ, e59, hwi]
          refine ⟨i + 1, by omega, (by first | trivial | (simp -dsimp only [R1, simprocAttr, e1]; done) | rfl), (by first | trivial | (simp -dsimp only [R1, simprocAttr, e2]; done) | rfl), (by first | trivial | (simp -dsimp only [R1, simprocAttr, e4]; done) | rfl), (by first | trivial | (simp -dsimp only [R1, simprocAttr, e57]; done) | rfl), (by first | trivial | (simp -dsimp only [R1, simprocAttr, e58]; done) | rfl), (by first | trivial | (simp -dsimp only [R1, simprocAttr]; done) | rfl), by omega, t2, s2, v1, w2.trans v2, ?_, w4.trans (Lft.app.trans v4)⟩
          rcases v3 with v3 | v3
          · rw [v3]; exact w3
          · exact .inr v3
        · simp -dsimp only [↓R0, RA, simprocAttr, RQ, hc, e1, e2, e4, hbox, w1]
          rcases s46k (cwd := cwd) w2.1 hp with ⟨e, he, hg⟩ | ⟨t', hg, hk', hG⟩
          · simp -dsimp only [↓R0, RA, simprocAttr, RQ, e1, ld24, hCall_g hg]
            refine hCall_c (d75e (t' := t1) (x := st.length) (r := true) he hbox w1) ?_
            rintro _ st' ⟨s', h1, h2, h3⟩
            simp -dsimp only [↓R0, RA, simprocAttr, RQ]
            refine ⟨t1, s', h1, w2, ?_, Lft.app.trans (w4.trans h3), fun hf hs => ?_⟩
            · rcases h2 with h2 | h2
              · exact .inr h2
              · rw [h2.1]; exact w3
            · rcases h2 with h2 | h2
              · exact absurd h2 hs
              · rw [h2.2] at hf; cases hf
          · simp -dsimp only [↓R0, RA, simprocAttr, RQ, e1, ld24, hCall_g hg]
            refine hCall_c (d75 (t' := t') (x := st.length) (r := true) hbox w1) ?_
            rintro _ st' ⟨h1, h3⟩
            simp -dsimp only [↓R0, RA, simprocAttr, RQ]
            exact ⟨t', s1, h1, w2.trans hk', w3, Lft.app.trans (w4.trans h3), fun _ _ => ⟨t1, w2, hG⟩⟩
      · simp -dsimp only [↓R0, RA, simprocAttr, RQ, get_app hw]
        rcases s76k (cwd := cwd) hT hp with ⟨e, he, hg⟩ | ⟨t', hg, hk', hG⟩
        · simp -dsimp only [↓R0, RA, simprocAttr, RQ, get_app hw, ld24, hCall_g hg]
          refine hCall_c (d75e (t' := t) (x := st.length) (r := true) he (by rw [app_get0]; rfl) (get_app hw)) ?_
          rintro _ st' ⟨s', h1, h2, h3⟩
          simp -dsimp only [↓R0, RA, simprocAttr, RQ]
          exact ⟨t, s', h1, .refl hT, by rcases h2 with h2 | h2; exact .inr h2; exact .inl h2.1, Lft.app.trans h3, fun hf hs => by
            rcases h2 with h2 | h2
            · exact absurd h2 hs
            · rw [h2.2] at hf; cases hf⟩
        · simp -dsimp only [↓R0, RA, simprocAttr, RQ, get_app hw, ld24, hCall_g hg]
          refine hCall_c (d75 (t' := t') (x := st.length) (r := true) (by rw [app_get0]; rfl) (get_app hw)) ?_
          rintro _ st' ⟨h1, h3⟩
          simp -dsimp only [↓R0, RA, simprocAttr, RQ]
          exact ⟨t', s, h1, hk', .inl rfl, Lft.app.trans h3, fun _ _ => ⟨t, .refl hT, hG⟩⟩
    · simp -dsimp only [↓R0, RA, simprocAttr, RQ, un, decide_eq_false hk, get_app hw]
      rcases s76k (cwd := cwd) hT hp with ⟨e, he, hg⟩ | ⟨t', hg, hk', hG⟩
      · simp -dsimp only [↓R0, RA, simprocAttr, RQ, get_app hw, ld24, hCall_g hg]
        refine hCall_c (d75e (t' := t) (x := st.length) (r := true) he (by rw [app_get0]; rfl) (get_app hw)) ?_
        rintro _ st' ⟨s', h1, h2, h3⟩
        simp -dsimp only [↓R0, RA, simprocAttr, RQ]
        exact ⟨t, s', h1, .refl hT, by rcases h2 with h2 | h2; exact .inr h2; exact .inl h2.1, Lft.app.trans h3, fun hf hs => by
          rcases h2 with h2 | h2
          · exact absurd h2 hs
          · rw [h2.2] at hf; cases hf⟩
      · simp -dsimp only [↓R0, RA, simprocAttr, RQ, get_app hw, ld24, hCall_g hg]
        refine hCall_c (d75 (t' := t') (x := st.length) (r := true) (by rw [app_get0]; rfl) (get_app hw)) ?_
        rintro _ st' ⟨h1, h3⟩
        simp -dsimp only [↓R0, RA, simprocAttr, RQ]
        exact ⟨t', s, h1, hk', .inl rfl, Lft.app.trans h3, fun _ _ => ⟨t, .refl hT, hG⟩⟩
  · simp -dsimp only [↓R0, RA, simprocAttr, RQ, hr, get_app hw]
    rcases s76k (cwd := cwd) hT hp with ⟨e, he, hg⟩ | ⟨t', hg, hk', hG⟩
    · simp -dsimp only [↓R0, RA, simprocAttr, RQ, get_app hw, ld24, hCall_g hg]
      refine hCall_c (d75e (t' := t) (x := st.length) (r := true) he (by rw [app_get0]; rfl) (get_app hw)) ?_
      rintro _ st' ⟨s', h1, h2, h3⟩
      simp -dsimp only [↓R0, RA, simprocAttr, RQ]
      exact ⟨t, s', h1, .refl hT, by rcases h2 with h2 | h2; exact .inr h2; exact .inl h2.1, Lft.app.trans h3, fun hf hs => by
        rcases h2 with h2 | h2
        · exact absurd h2 hs
        · rw [h2.2] at hf; cases hf⟩
    · simp -dsimp only [↓R0, RA, simprocAttr, RQ, get_app hw, ld24, hCall_g hg]
      refine hCall_c (d75 (t' := t') (x := st.length) (r := true) (by rw [app_get0]; rfl) (get_app hw)) ?_
      rintro _ st' ⟨h1, h3⟩
      simp -dsimp only [↓R0, RA, simprocAttr, RQ]
      exact ⟨t', s, h1, hk', .inl rfl, Lft.app.trans h3, fun _ _ => ⟨t, .refl hT, hG⟩⟩
theorem d47 : ∀ (m : Nat) {t : Tr} {s : Int} {p : ByteArray} {st : Store}, 1025 - p.size ≤ m → T t → p.size ≤ 1000000 → st[w]? = some (.cells 0 true 57 (wc t cwd o a b s)) →
    CallW C TP 47 [.ptr w 0 0, .str p] st fun _ st' => Wrk t cwd o a b s w st st' (RmR t cwd o p) := by
  intro m
  induction m with
  | zero =>
    intro t s p st hm hT hp hw
    exact d47s hT hp hw (fun h => absurd h (by omega))
  | succ m ih =>
    intro t s p st hm hT hp hw
    exact d47s hT hp hw (fun h1 h2 => ih (by omega))
end
end Go.Mm
end
