/-
  The steps of a path's text, plainly.
-/
import Derived.Test.YtlgonfdodmipeaaDoorPathA
import Derived.Test.YtlgonfdodmipeaaDoorMarkT
namespace Go.Proofs.YtlgonfdodmipeaaDoor
open Go.RowKit
set_option linter.unusedVariables false

/-- The steps that stand in a text. -/
def stepsB (s : ByteArray) : List ByteArray := (stepsL s.data.toList).map str
/-- The text is its steps' path. -/
def gpOk (s : ByteArray) : Bool := decide (pathB (stepsB s) = s.data.toList)
/-- GetPath's row. -/
def gpR (s : ByteArray) : List ByteArray := if gpOk s = true then stepsB s else []
theorem str_back (ss : List (List UInt8)) : (ss.map str).map (fun s => s.data.toList) = ss := by
  rw [List.map_map]
  conv => rhs; rw [← List.map_id ss]
  apply List.map_congr_left
  intro x _
  simp [str]
theorem pathB_cases (ss : List (List UInt8)) {t : List UInt8} (h : pathB (ss.map str) = t) : t = [] ∨ t = pathL ss := by
  unfold pathB at h
  split at h
  · right
    rw [← h]
    unfold pathS
    rw [str_back]
  · exact .inl h.symm
theorem stepsB_nil {s : ByteArray} (h : s.data.toList = []) : stepsB s = [] := by
  unfold stepsB stepsL
  rw [h]; rfl
theorem gp_read {s : ByteArray} {ss : List (List UInt8)} (h : readP s.data.toList = some ss) : (pathB (ss.map str) = s.data.toList ↔ gpOk s = true) ∧ (gpOk s = true → gpR s = ss.map str) := by
  have back : gpOk s = true → stepsB s = ss.map str := fun hg => by
    have hg' : pathB ((stepsL s.data.toList).map str) = s.data.toList := of_decide_eq_true hg
    rcases pathB_cases _ hg' with h0 | h0
    · rw [stepsB_nil h0]
      rw [h0] at h
      have : ss = [] := (Option.some.inj h).symm
      rw [this]; rfl
    · have hr := read_path (stepsL s.data.toList)
      rw [← h0, h] at hr
      have : ss = stepsL s.data.toList := Option.some.inj hr
      unfold stepsB
      rw [← this]
  refine ⟨⟨fun hp => ?_, fun hg => ?_⟩, fun hg => ?_⟩
  · rcases pathB_cases _ hp with h0 | h0
    · unfold gpOk
      rw [stepsB_nil h0, h0]
      decide
    · have : stepsB s = ss.map str := by
        unfold stepsB
        rw [h0, steps_path]
      unfold gpOk
      rw [this]
      exact decide_eq_true hp
  · rw [← back hg]
    exact of_decide_eq_true hg
  · unfold gpR
    rw [if_pos hg]
    exact back hg
theorem gp_no {s : ByteArray} (h : readP s.data.toList = none) : gpOk s = false := by
  cases hg : gpOk s with
  | false => rfl
  | true =>
    exfalso
    have hg' : pathB ((stepsL s.data.toList).map str) = s.data.toList := of_decide_eq_true hg
    rcases pathB_cases _ hg' with h0 | h0
    · rw [h0] at h; cases h
    · rw [h0, read_path] at h; cases h

/-- What the reference has read behind j bytes. -/
def Gp (s : ByteArray) (ss : List (List UInt8)) (j : Nat) : Prop :=
  ((j = 0 ∧ ss = []) ∨ ∃ done cur, ss = done ++ [cur] ∧ walkP (s.data.toList.drop j) done cur = readP s.data.toList) ∧ ss.length ≤ j ∧ ∀ x ∈ ss, x.length ≤ j
theorem Gp.start (s : ByteArray) : Gp s [] 0 := ⟨.inl ⟨rfl, rfl⟩, Nat.le_refl _, fun x h => by cases h⟩
theorem drop_at (s : ByteArray) {j : Nat} (hj : j < s.size) : s.data.toList.drop j = s[j] :: s.data.toList.drop (j + 1) := by
  have h : j < s.data.toList.length := hj
  rw [List.drop_eq_getElem_cons h]
  rfl
theorem Gp.slash {s : ByteArray} {ss : List (List UInt8)} {j : Nat} (h : Gp s ss j) (hj : j < s.size) (hb : s[j] = 47) : Gp s (ss ++ [[]]) (j + 1) := by
  obtain ⟨h1, h2, h3⟩ := h
  refine ⟨.inr ⟨ss, [], rfl, ?_⟩, by simp; omega, fun x hx => ?_⟩
  · rcases h1 with ⟨rfl, rfl⟩ | ⟨done, cur, rfl, h1⟩
    · have e := drop_at s hj
      rw [hb, List.drop_zero] at e
      rw [e]
      rfl
    · rw [← h1, drop_at s hj, hb, walkP_slash]
  · rcases List.mem_append.1 hx with hx | hx
    · exact Nat.le_succ_of_le (h3 x hx)
    · simp at hx; subst hx; simp
theorem Gp.none {s : ByteArray} {j : Nat} (h : Gp s [] j) (hj : j < s.size) (hb : s[j] ≠ 47) : j = 0 ∧ readP s.data.toList = none := by
  obtain ⟨h1, h2, h3⟩ := h
  rcases h1 with ⟨rfl, _⟩ | ⟨done, cur, h, _⟩
  · refine ⟨rfl, ?_⟩
    have e := drop_at s hj
    rw [List.drop_zero] at e
    rw [e]
    show (if s[0] = 47 then _ else _) = _
    rw [if_neg hb]
  · simp at h
theorem Gp.open {s : ByteArray} {ss : List (List UInt8)} {j : Nat} (h : Gp s ss j) (hn : ss ≠ []) : ∃ done cur, ss = done ++ [cur] ∧ walkP (s.data.toList.drop j) done cur = readP s.data.toList ∧ done.length + 1 ≤ j ∧ cur.length ≤ j ∧ ∀ x ∈ done, x.length ≤ j := by
  obtain ⟨h1, h2, h3⟩ := h
  rcases h1 with ⟨_, h⟩ | ⟨done, cur, rfl, h1⟩
  · exact absurd h hn
  · exact ⟨done, cur, rfl, h1, by simpa using h2, h3 cur (by simp), fun x hx => h3 x (by simp [hx])⟩
theorem gp_mk {s : ByteArray} {done : List (List UInt8)} {cur : List UInt8} {c : UInt8} {j k : Nat} (hk : j + 1 ≤ k) (h1 : walkP (s.data.toList.drop k) done (cur ++ [c]) = readP s.data.toList) (h2 : done.length + 1 ≤ j) (h3 : cur.length ≤ j) (h4 : ∀ x ∈ done, x.length ≤ j) : Gp s (done ++ [cur ++ [c]]) k := by
  refine ⟨.inr ⟨done, _, rfl, h1⟩, by simp; omega, fun x hx => ?_⟩
  rcases List.mem_append.1 hx with hx | hx
  · have := h4 x hx; omega
  · simp at hx; subst hx; simp; omega
theorem gp_one {s : ByteArray} {done : List (List UInt8)} {cur : List UInt8} {j : Nat} (hj : j < s.size) (hb : s[j] ≠ 47) (ht : s[j] = 126 → ¬ j + 1 < s.size) (h1 : walkP (s.data.toList.drop j) done cur = readP s.data.toList) : walkP (s.data.toList.drop (j + 1)) done (cur ++ [s[j]]) = readP s.data.toList := by
  rw [drop_at s hj] at h1
  by_cases h : s[j] = 126
  · have e : s.data.toList.drop (j + 1) = [] := List.drop_of_length_le (by have := ht h; show s.size ≤ _; omega)
    rw [e] at h1 ⊢
    rw [← h1, h]
    rfl
  · rw [← h1, walkP_own hb h]
theorem gp_two {s : ByteArray} {done : List (List UInt8)} {cur : List UInt8} {j : Nat} (hj : j + 1 < s.size) (hb : s[j] = 126) {c : UInt8} (hc : (if s[j + 1] = 49 then (47 : UInt8) else 126) = c) (h1 : walkP (s.data.toList.drop j) done cur = readP s.data.toList) : walkP (s.data.toList.drop (j + 2)) done (cur ++ [c]) = readP s.data.toList := by
  rw [drop_at s (by omega), drop_at s hj, hb, walkP_tilde] at h1
  rw [← h1, ← hc]
  congr 2
  split <;> rfl
theorem Gp.fin {s : ByteArray} {ss : List (List UInt8)} (h : Gp s ss s.size) : readP s.data.toList = some ss := by
  obtain ⟨h1, h2, h3⟩ := h
  rcases h1 with ⟨h0, rfl⟩ | ⟨done, cur, rfl, h1⟩
  · have : s.data.toList = [] := List.eq_nil_of_length_eq_zero (show s.size = 0 from h0)
    rw [this]; rfl
  · have e : s.data.toList.drop s.size = [] := List.drop_of_length_le (Nat.le_refl _)
    rw [e] at h1
    rw [← h1]; rfl
/-- The row's cells. -/
def gcells (ss : List (List UInt8)) : List Value := (ss.map str).map tv
theorem gcells_len (ss : List (List UInt8)) : (gcells ss).length = ss.length := by simp [gcells]
theorem gcells_last (done : List (List UInt8)) (cur : List UInt8) : (gcells (done ++ [cur]))[done.length]? = some (.string (str cur)) := by simp [gcells, tv]
theorem gcells_set (done : List (List UInt8)) (cur c : List UInt8) : (gcells (done ++ [cur])).set done.length (.string (str c)) = gcells (done ++ [c]) := by
  unfold gcells
  simp [tv]
theorem gcells_snoc (ss : List (List UInt8)) (c : List UInt8) : gcells (ss ++ [c]) = gcells ss ++ [.string (str c)] := by simp [gcells, tv]
end Go.Proofs.YtlgonfdodmipeaaDoor
