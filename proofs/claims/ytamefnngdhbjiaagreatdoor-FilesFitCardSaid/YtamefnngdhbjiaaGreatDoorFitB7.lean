/- A part of the proof of FilesFitCardSaid: S54. -/
import Derived.Test.YtamefnngdhbjiaaGreatDoorFitB4
import Derived.Test.YtamefnngdhbjiaaGreatDoorFitB6
set_option linter.all false
section
namespace Go.Mm
open Go.Proofs
variable [Globs]
set_option maxRecDepth 8000
open Go.Proofs.Tryz renaming prog → TP
section
theorem u3 : TP.underlying 3 = some (.int .i64) := by kernel_rfl
theorem u9 : TP.underlying 9 = some .string := by kernel_rfl
theorem u22 : TP.underlying 22 = some (.slice 38) := by kernel_rfl
theorem u36 : TP.underlying 36 = some (.slice 71) := by kernel_rfl
theorem u25 : TP.underlying 25 = some (.slice 9) := by kernel_rfl
theorem u24 : TP.underlying 24 = some (.struct #[(.mk "Nodes" 22 0 false "" "" 0), (.mk "MaxNodes" 3 1 false "" "" 24), (.mk "MaxBytes" 3 2 false "" "" 32)]) := by kernel_rfl
theorem u38 : TP.underlying 38 = some (.struct #[(.mk "Kind" 3 0 false "" "" 0), (.mk "Mode" 3 1 false "" "" 8), (.mk "Links" 3 2 false "" "" 16), (.mk "Data" 9 3 false "" "" 24), (.mk "Kids" 36 4 false "" "" 40), (.mk "Up" 3 5 false "" "" 64)]) := by kernel_rfl
theorem u71 : TP.underlying 71 = some (.struct #[(.mk "Name" 9 0 false "" "" 0), (.mk "Ino" 3 1 false "" "" 16)]) := by kernel_rfl
theorem by71 : TP.bytesOf 71 = 24 := by kernel_rfl
theorem by9 : TP.bytesOf 9 = 16 := by kernel_rfl
theorem z3 : TP.cellsOf 3 = 1 := by kernel_rfl
theorem z9 : TP.cellsOf 9 = 1 := by kernel_rfl
theorem z22 : TP.cellsOf 22 = 1 := by kernel_rfl
theorem z36 : TP.cellsOf 36 = 1 := by kernel_rfl
theorem z24 : TP.cellsOf 24 = 3 := by kernel_rfl
theorem z38 : TP.cellsOf 38 = 6 := by kernel_rfl
theorem z71 : TP.cellsOf 71 = 2 := by kernel_rfl
theorem typ3 {j : Nat} {ds : List D} (h : Typ TP (j + 1) 3 ds) : ∃ n, ds = [.int .i64 n] := by
  simp only [Typ, u3] at h
  obtain ⟨n, rfl, _⟩ := h
  exact ⟨n, rfl⟩
theorem typ9 {j : Nat} {ds : List D} (h : Typ TP (j + 1) 9 ds) : ∃ s : ByteArray, ds = [.str s] ∧ s.size ≤ 140737488355328 := by
  simp only [Typ, u9] at h
  obtain ⟨s, rfl, hs⟩ := h
  exact ⟨s, rfl, by unfold reachBytes at hs; omega⟩
theorem len2 {α : Type} {l : List α} (h : l.length = 2) : ∃ a b, l = [a, b] := by
  match l, h with
  | [a, b], _ => exact ⟨a, b, rfl⟩
theorem len3 {α : Type} {l : List α} (h : l.length = 3) : ∃ a b c, l = [a, b, c] := by
  match l, h with
  | [a, b, c], _ => exact ⟨a, b, c, rfl⟩
theorem len6 {α : Type} {l : List α} (h : l.length = 6) : ∃ a b c d e f, l = [a, b, c, d, e, f] := by
  match l, h with
  | [a, b, c, d, e, f], _ => exact ⟨a, b, c, d, e, f, rfl⟩
theorem typ71 {j : Nat} {ds : List D} (h : Typ TP (j + 2) 71 ds) : ∃ e : Ent, ds = e.row ∧ e.name.size ≤ 140737488355328 := by
  rw [Typ, u71] at h
  obtain ⟨h1, h2⟩ := h
  rw [z71] at h1
  obtain ⟨a, b, rfl⟩ := len2 h1
  have q1 := h2 _ (List.Mem.head _)
  have q2 := h2 _ (List.Mem.tail _ (List.Mem.head _))
  simp only [z9, z3, List.drop_zero, List.drop_succ_cons, List.take_succ_cons, List.take_zero] at q1 q2
  obtain ⟨s, e1, hs⟩ := typ9 q1
  obtain ⟨n, e2⟩ := typ3 q2
  injection e1 with e1
  injection e2 with e2
  subst e1 e2
  exact ⟨⟨s, n⟩, rfl, hs⟩
theorem rows71 {j : Nat} : ∀ {rows : List (List D)}, (∀ r ∈ rows, Typ TP (j + 2) 71 r ∧ r.length = TP.cellsOf 71) → ∃ l : List Ent, rows.flatten = rowsE l ∧ l.length = rows.length ∧ ∀ e ∈ l, e.name.size ≤ 140737488355328
  | [], _ => ⟨[], rfl, rfl, by simp⟩
  | r :: rows, h => by
    obtain ⟨e, rfl, hs⟩ := typ71 (h r (by simp)).1
    obtain ⟨l, h1, h2, h3⟩ := rows71 (rows := rows) (fun x hx => h x (by simp [hx]))
    refine ⟨e :: l, by rw [List.flatten_cons, h1]; rfl, by simp [h2], ?_⟩
    intro x hx
    rcases List.mem_cons.1 hx with rfl | hx
    · exact hs
    · exact h3 x hx
theorem typ36 {j : Nat} {ds : List D} (h : Typ TP (j + 3) 36 ds) : ∃ kd, ds = [kd] ∧ KdOk kd ∧ (∀ e ∈ ents kd, e.name.size ≤ 140737488355328) ∧ (ents kd).length ≤ 140737488355328 := by
  rw [Typ, u36] at h
  rcases h with rfl | rfl | ⟨rows, rfl, _, h1, h2⟩
  · exact ⟨_, rfl, .inl ⟨rfl, rfl, rfl⟩, by simp [ents], by simp [ents]⟩
  · exact ⟨_, rfl, .inr (.inl ⟨rfl, rfl, rfl⟩), by simp [ents], by simp [ents]⟩
  · obtain ⟨l, e1, e2, e3⟩ := rows71 h2
    rw [e1, ← e2]
    refine ⟨_, rfl, kd_fsl, ?_, ?_⟩
    · rw [ents_fsl]; exact e3
    · rw [ents_fsl, e2]; rw [by71] at h1; unfold reachBytes at h1; omega
theorem typ38 {j : Nat} {ds : List D} (h : Typ TP (j + 4) 38 ds) : ∃ x : Ino, ds = x.row ∧ KdOk x.kd ∧ x.data.size ≤ 140737488355328 ∧ (∀ e ∈ x.kids, e.name.size ≤ 140737488355328) ∧ x.kids.length ≤ 140737488355328 := by
  rw [Typ, u38] at h
  obtain ⟨h1, h2⟩ := h
  rw [z38] at h1
  obtain ⟨a, b, c, d, e, f, rfl⟩ := len6 h1
  have q1 := h2 _ (List.Mem.head _)
  have q2 := h2 _ (List.Mem.tail _ (List.Mem.head _))
  have q3 := h2 _ (List.Mem.tail _ (List.Mem.tail _ (List.Mem.head _)))
  have q4 := h2 _ (List.Mem.tail _ (List.Mem.tail _ (List.Mem.tail _ (List.Mem.head _))))
  have q5 := h2 _ (List.Mem.tail _ (List.Mem.tail _ (List.Mem.tail _ (List.Mem.tail _ (List.Mem.head _)))))
  have q6 := h2 _ (List.Mem.tail _ (List.Mem.tail _ (List.Mem.tail _ (List.Mem.tail _ (List.Mem.tail _ (List.Mem.head _))))))
  simp only [z9, z3, z36, List.drop_zero, List.drop_succ_cons, List.take_succ_cons, List.take_zero] at q1 q2 q3 q4 q5 q6
  obtain ⟨n1, e1⟩ := typ3 q1
  obtain ⟨n2, e2⟩ := typ3 q2
  obtain ⟨n3, e3⟩ := typ3 q3
  obtain ⟨s, e4, hs⟩ := typ9 q4
  obtain ⟨kd, e5, g1, g2, g3⟩ := typ36 q5
  obtain ⟨n6, e6⟩ := typ3 q6
  injection e1 with e1; injection e2 with e2; injection e3 with e3; injection e4 with e4; injection e5 with e5; injection e6 with e6
  subst e1 e2 e3 e4 e5 e6
  exact ⟨⟨n1, n2, n3, s, e, n6⟩, rfl, g1, hs, g2, g3⟩
theorem rows38 {j : Nat} : ∀ {rows : List (List D)}, (∀ r ∈ rows, Typ TP (j + 4) 38 r ∧ r.length = TP.cellsOf 38) → ∃ l : List Ino, rows.flatten = rowsI l ∧ l.length = rows.length ∧ ∀ x ∈ l, KdOk x.kd ∧ x.data.size ≤ 140737488355328 ∧ (∀ e ∈ x.kids, e.name.size ≤ 140737488355328) ∧ x.kids.length ≤ 140737488355328
  | [], _ => ⟨[], rfl, rfl, by simp⟩
  | r :: rows, h => by
    obtain ⟨e, rfl, hs⟩ := typ38 (h r (by simp)).1
    obtain ⟨l, h1, h2, h3⟩ := rows38 (rows := rows) (fun x hx => h x (by simp [hx]))
    refine ⟨e :: l, by rw [List.flatten_cons, h1]; rfl, by simp [h2], ?_⟩
    intro x hx
    rcases List.mem_cons.1 hx with rfl | hx
    · exact hs
    · exact h3 x hx
theorem rowsI_refs : ∀ {l : List Ino}, (∀ x ∈ l, KdOk x.kd) → refsL (rowsI l) = []
  | [], _ => rfl
  | x :: l, h => by
    rw [rowsI_cons]
    simp only [refsL, refs, KdOk.refs (h x (by simp)), rowsI_refs (l := l) (fun y hy => h y (by simp [hy])), List.append_nil]
theorem typ24 {ds : List D} (h : Typ TP 6 24 ds) : ∃ t : Tr, ds = t.c ∧ t.Ok ∧ t.Sz := by
  rw [Typ, u24] at h
  obtain ⟨h1, h2⟩ := h
  rw [z24] at h1
  obtain ⟨a, b, c, rfl⟩ := len3 h1
  have q1 := h2 _ (List.Mem.head _)
  have q2 := h2 _ (List.Mem.tail _ (List.Mem.head _))
  have q3 := h2 _ (List.Mem.tail _ (List.Mem.tail _ (List.Mem.head _)))
  simp only [z3, z22, List.drop_zero, List.drop_succ_cons, List.take_succ_cons, List.take_zero] at q1 q2 q3
  obtain ⟨n2, e2⟩ := typ3 q2
  obtain ⟨n3, e3⟩ := typ3 q3
  injection e2 with e2; injection e3 with e3
  subst e2 e3
  rw [Typ, u22] at q1
  rcases q1 with e | e | ⟨rows, e, hl, _, hr⟩
  · injection e with e; subst e
    exact ⟨⟨.nils, [], n2, n3⟩, rfl, ⟨.inl ⟨rfl, rfl, rfl⟩, by simp, by simp, by simp only [refs]⟩, ⟨by simp, by simp, by simp⟩⟩
  · injection e with e; subst e
    exact ⟨⟨.zsl, [], n2, n3⟩, rfl, ⟨.inr (.inl ⟨rfl, rfl, rfl⟩), by simp, by simp, by simp only [refs]⟩, ⟨by simp, by simp, by simp⟩⟩
  · injection e with e; subst e
    obtain ⟨l, e1, e2, e3⟩ := rows38 hr
    rw [e1, ← e2]
    refine ⟨⟨.fsl l.length (rowsI l), l, n2, n3⟩, rfl, ⟨.inr (.inr rfl), fun x hx => (e3 x hx).1, ?_, ?_⟩, ⟨fun x hx => (e3 x hx).2.1, fun x hx => (e3 x hx).2.2.1, fun x hx => (e3 x hx).2.2.2⟩⟩
    · show l.length ≤ _
      rw [e2]; unfold maxLen at hl; omega
    · simp only [refs]
      exact rowsI_refs (fun x hx => (e3 x hx).1)
theorem rows9 {j : Nat} : ∀ {rows : List (List D)}, (∀ r ∈ rows, Typ TP (j + 1) 9 r ∧ r.length = TP.cellsOf 9) → ∃ l : List ByteArray, rows.flatten = rowsS l ∧ l.length = rows.length ∧ ∀ s ∈ l, s.size ≤ 140737488355328
  | [], _ => ⟨[], rfl, rfl, by simp⟩
  | r :: rows, h => by
    obtain ⟨e, rfl, hs⟩ := typ9 (h r (by simp)).1
    obtain ⟨l, h1, h2, h3⟩ := rows9 (rows := rows) (fun x hx => h x (by simp [hx]))
    refine ⟨e :: l, by rw [List.flatten_cons, h1]; rfl, by simp [h2], ?_⟩
    intro x hx
    rcases List.mem_cons.1 hx with rfl | hx
    · exact hs
    · exact h3 x hx
theorem typ25 {d : D} (h : Typ TP 6 25 [d]) : ∃ l : List ByteArray, Sl l.length (rowsS l) d ∧ (∀ s ∈ l, s.size ≤ 140737488355328) ∧ l.length ≤ 140737488355328 := by
  rw [Typ, u25] at h
  rcases h with e | e | ⟨rows, e, _, hl, hr⟩
  · injection e with e; subst e; exact ⟨[], .inl ⟨rfl, rfl, rfl⟩, by simp, by simp⟩
  · injection e with e; subst e; exact ⟨[], .inr (.inl ⟨rfl, rfl, rfl⟩), by simp, by simp⟩
  · injection e with e; subst e
    obtain ⟨l, e1, e2, e3⟩ := rows9 hr
    rw [e1, ← e2]
    exact ⟨l, .inr (.inr rfl), e3, by rw [e2]; rw [by9] at hl; unfold reachBytes at hl; omega⟩
theorem st24 : isStruct TP 24 = true := by kernel_rfl
theorem st3 : isStruct TP 3 = false := by kernel_rfl
theorem st9 : isStruct TP 9 = false := by kernel_rfl
theorem st25 : isStruct TP 25 = false := by kernel_rfl
theorem tv24 {d : D} (h : TypV TP 24 d) : ∃ t : Tr, d = t.d ∧ t.Ok ∧ t.Sz := by
  unfold TypV at h
  rw [st24, if_pos rfl] at h
  obtain ⟨ds, rfl, h⟩ := h
  obtain ⟨t, rfl, h1, h2⟩ := typ24 h
  exact ⟨t, rfl, h1, h2⟩
theorem tv3 {d : D} (h : TypV TP 3 d) : ∃ n, d = .int .i64 n := by
  unfold TypV at h
  rw [st3, if_neg (by decide)] at h
  obtain ⟨n, e⟩ := typ3 h
  injection e with e
  exact ⟨n, e⟩
theorem tv9 {d : D} (h : TypV TP 9 d) : ∃ s : ByteArray, d = .str s ∧ s.size ≤ 140737488355328 := by
  unfold TypV at h
  rw [st9, if_neg (by decide)] at h
  obtain ⟨s, e, hs⟩ := typ9 h
  injection e with e
  exact ⟨s, e, hs⟩
theorem tv25 {d : D} (h : TypV TP 25 d) : ∃ l : List ByteArray, Sl l.length (rowsS l) d ∧ (∀ s ∈ l, s.size ≤ 140737488355328) ∧ l.length ≤ 140737488355328 := by
  unfold TypV at h
  rw [st25, if_neg (by decide)] at h
  exact typ25 h
theorem run3 [GOk] (xs : List D) (h : TypL TP [24, 3, 9, 25] xs) : BodyW C TP 3 xs [] fun r _ => r = .bool true := by
  obtain ⟨d1, r1, rfl, h1, d2, r2, rfl, h2, d3, r3, rfl, h3, d4, r4, rfl, h4, rfl⟩ := h
  obtain ⟨t, rfl, ok, hz⟩ := tv24 h1
  obtain ⟨n, rfl⟩ := tv3 h2
  obtain ⟨s, rfl, _⟩ := tv9 h3
  obtain ⟨l, hd, hs, hl⟩ := tv25 h4
  exact w3 ok hz hd hs hl
end
end Go.Mm
end
