/-
  Paths, plainly: a path's text, and what stands behind its cut.
-/
import Derived.Test.YtlgonfdodmipeaaDoorPieces
import Derived.Lib.ReplaceLaws
import Derived.Lib.CountLaws
namespace Go.Proofs.YtlgonfdodmipeaaDoor
open Go.RowKit
set_option linter.unusedVariables false

/-- What stands for a byte in a step. -/
def escP (b : UInt8) : List UInt8 := if b = 126 then [126, 48] else if b = 47 then [126, 49] else [b]
/-- A step in a path. -/
def escS (l : List UInt8) : List UInt8 := l.flatMap escP
/-- The path of steps. -/
def pathL (ss : List (List UInt8)) : List UInt8 := ss.flatMap fun l => 47 :: escS l

theorem index_skip {b : UInt8} {l old : List UInt8} (h : old.isPrefixOf (b :: l) = false) : Lib.index (b :: l) old = if Lib.index l old == -1 then -1 else Lib.index l old + 1 := by
  rw [Lib.index, h]; simp
theorem count_skip {b : UInt8} {l old : List UInt8} (hne : old ≠ []) (h : old.isPrefixOf (b :: l) = false) : Lib.count (b :: l) old = Lib.count l old := by
  have hix := index_skip h
  have hge := Lib.index_ge l old
  by_cases hm : Lib.index l old = -1
  · rw [Lib.count_miss hm, Lib.count_miss (by rw [hix, if_pos (beq_iff_eq.2 hm)])]
  · obtain ⟨j, hj⟩ : ∃ j : Nat, Lib.index l old = j := ⟨(Lib.index l old).toNat, by omega⟩
    have hix' : Lib.index (b :: l) old = ((j + 1 : Nat) : Int) := by rw [hix, if_neg (fun e => hm (beq_iff_eq.1 e)), hj]; omega
    rw [Lib.count_hit hne hj, Lib.count_hit hne hix', show j + 1 + old.length = (j + old.length) + 1 by omega, List.drop_succ_cons]
theorem index_front {l old : List UInt8} : Lib.index (old ++ l) old = ((0 : Nat) : Int) := by
  cases old with
  | nil => cases l <;> rfl
  | cons a r =>
    have : (a :: r).isPrefixOf (a :: (r ++ l)) = true := by simp [List.isPrefixOf_iff_prefix]
    rw [List.cons_append, Lib.index, this]; rfl
theorem rep_all {l old new : List UInt8} (hon : old ≠ new) : Lib.replaceAll l old new = Lib.replaceK old new (Lib.count l old) l := by
  unfold Lib.replaceAll Lib.replace Lib.replaceNum
  rw [if_neg (by simpa using hon), if_pos (by omega)]
theorem rep_skip {b : UInt8} {l old new : List UInt8} (hne : old ≠ []) (hon : old ≠ new) (h : old.isPrefixOf (b :: l) = false) : Lib.replaceAll (b :: l) old new = b :: Lib.replaceAll l old new := by
  rw [rep_all hon, rep_all hon, count_skip hne h]
  have hge := Lib.index_ge l old
  by_cases hm : Lib.index l old = -1
  · rw [Lib.count_miss hm]; rfl
  · obtain ⟨j, hj⟩ : ∃ j : Nat, Lib.index l old = j := ⟨(Lib.index l old).toNat, by omega⟩
    have hix' : Lib.index (b :: l) old = ((j + 1 : Nat) : Int) := by rw [index_skip h, if_neg (fun e => hm (beq_iff_eq.1 e)), hj]; omega
    rw [Lib.count_hit hne hj, Nat.add_comm, Lib.replaceK_hit _ _ _ _ _ hj, Lib.replaceK_hit _ _ _ _ _ hix', show j + 1 + old.length = (j + old.length) + 1 by omega, List.drop_succ_cons, List.take_succ_cons]
    rfl
theorem rep_hit {l old new : List UInt8} (hne : old ≠ []) (hon : old ≠ new) : Lib.replaceAll (old ++ l) old new = new ++ Lib.replaceAll l old new := by
  have hi : Lib.index (old ++ l) old = ((0 : Nat) : Int) := index_front
  rw [rep_all hon, rep_all hon, Lib.count_hit hne hi, Nat.add_comm, Lib.replaceK_hit _ _ _ _ _ hi]
  simp
theorem rep_nil {old new : List UInt8} (hne : old ≠ []) (hon : old ≠ new) : Lib.replaceAll [] old new = [] := by
  have hi : Lib.index [] old = -1 := by cases old with
    | nil => exact absurd rfl hne
    | cons a r => rfl
  rw [rep_all hon, Lib.count_miss hi]; rfl
theorem rep_one {c : UInt8} {new : List UInt8} (hon : [c] ≠ new) : ∀ l : List UInt8, Lib.replaceAll l [c] new = l.flatMap fun b => if b = c then new else [b]
  | [] => rep_nil (by simp) hon
  | b :: l => by
    by_cases h : b = c
    · subst h
      have := rep_hit (l := l) (old := [b]) (new := new) (by simp) hon
      rw [List.singleton_append] at this
      rw [this, rep_one hon l]
      simp
    · rw [rep_skip (by simp) hon (by simp [List.isPrefixOf, Ne.symm h]), rep_one hon l]
      simp [h]
/-- '~' first, then '/'. -/
theorem esc_two (l : List UInt8) : Lib.replaceAll (Lib.replaceAll l [126] [126, 48]) [47] [126, 49] = escS l := by
  rw [rep_one (by decide), rep_one (by decide), List.flatMap_assoc]
  unfold escS
  congr 1
  funext b
  unfold escP
  by_cases h1 : b = 126
  · rw [if_pos h1, if_pos h1]; rfl
  · rw [if_neg h1, if_neg h1]
    simp
/-- What the first way back leaves. -/
def midS (l : List UInt8) : List UInt8 := l.flatMap fun b => if b = 126 then [126, 48] else [b]
theorem un_slash : ∀ l : List UInt8, Lib.replaceAll (escS l) [126, 49] [47] = midS l
  | [] => rep_nil (by simp) (by simp)
  | b :: l => by
    have ih := un_slash l
    unfold escS midS at *
    rw [List.flatMap_cons, List.flatMap_cons]
    unfold escP at ih ⊢
    by_cases h1 : b = 126
    · rw [if_pos h1, if_pos h1]
      rw [List.cons_append, rep_skip (by simp) (by simp) (by simp [List.isPrefixOf]), List.cons_append, rep_skip (by simp) (by simp) (by simp [List.isPrefixOf])]
      rw [List.nil_append, ih]
      rfl
    · rw [if_neg h1, if_neg h1]
      by_cases h2 : b = 47
      · rw [if_pos h2, rep_hit (by simp) (by simp), ih, h2]
      · rw [if_neg h2, List.singleton_append, rep_skip (by simp) (by simp) (by simp [List.isPrefixOf, Ne.symm h1]), ih]
        rfl
theorem un_tilde : ∀ l : List UInt8, Lib.replaceAll (midS l) [126, 48] [126] = l
  | [] => rep_nil (by simp) (by simp)
  | b :: l => by
    have ih := un_tilde l
    unfold midS at *
    rw [List.flatMap_cons]
    by_cases h1 : b = 126
    · rw [if_pos h1, rep_hit (by simp) (by simp), ih, h1]
      rfl
    · rw [if_neg h1, List.singleton_append, rep_skip (by simp) (by simp) (by simp [List.isPrefixOf, Ne.symm h1]), ih]
/-- A step out of a path. -/
def unS (l : List UInt8) : List UInt8 := Lib.replaceAll (Lib.replaceAll l [126, 49] [47]) [126, 48] [126]
theorem un_esc (l : List UInt8) : unS (escS l) = l := by unfold unS; rw [un_slash, un_tilde]
theorem escS_no (l : List UInt8) : (47 : UInt8) ∉ escS l := by
  unfold escS
  intro h
  obtain ⟨b, _, hb⟩ := List.mem_flatMap.1 h
  unfold escP at hb
  split at hb
  · simp at hb
  · split at hb
    · simp at hb
    · rename_i h2
      simp at hb
      exact h2 hb.symm
/-- The steps of a path's text. -/
def stepsL (l : List UInt8) : List (List UInt8) := (pieces 47 l).tail.map unS
theorem pieces_path : ∀ (a : List UInt8) (ss : List (List UInt8)), (47 : UInt8) ∉ a → pieces 47 (a ++ pathL ss) = a :: ss.map escS
  | a, [], h => by
    unfold pathL
    rw [List.flatMap_nil, List.append_nil]
    exact pieces_none h
  | a, x :: ss, h => by
    have ih := pieces_path (escS x) ss (escS_no x)
    unfold pathL at *
    rw [List.flatMap_cons, List.cons_append, pieces_hit _ h, ih]
    rfl
theorem steps_path (ss : List (List UInt8)) : stepsL (pathL ss) = ss := by
  have h := pieces_path [] ss (by simp)
  rw [List.nil_append] at h
  unfold stepsL
  rw [h, List.tail_cons, List.map_map]
  conv => rhs; rw [← List.map_id ss]
  apply List.map_congr_left
  intro x _
  exact un_esc x

/-- The reference's way: the steps that were found, the last one open; none where the text begins with no '/'. -/
def walkP : List UInt8 → List (List UInt8) → List UInt8 → Option (List (List UInt8))
  | [], done, cur => some (done ++ [cur])
  | b :: r, done, cur =>
    if b = 47 then walkP r (done ++ [cur]) []
    else if b = 126 then match r with
      | [] => some (done ++ [cur ++ [126]])
      | c :: r' => walkP r' done (cur ++ (if c = 49 then [47] else [126]))
    else walkP r done (cur ++ [b])
/-- The steps that the reference reads. -/
def readP (l : List UInt8) : Option (List (List UInt8)) := match l with
  | [] => some []
  | b :: r => if b = 47 then walkP r [] [] else none
theorem walkP_slash (r : List UInt8) (done : List (List UInt8)) (cur : List UInt8) : walkP (47 :: r) done cur = walkP r (done ++ [cur]) [] := by
  rw [walkP.eq_def]
  rfl
theorem walkP_tilde (c : UInt8) (r : List UInt8) (done : List (List UInt8)) (cur : List UInt8) : walkP (126 :: c :: r) done cur = walkP r done (cur ++ if c = 49 then [47] else [126]) := by
  rw [walkP.eq_def]
  rfl
theorem walkP_own {b : UInt8} (h1 : b ≠ 47) (h2 : b ≠ 126) (r : List UInt8) (done : List (List UInt8)) (cur : List UInt8) : walkP (b :: r) done cur = walkP r done (cur ++ [b]) := by
  rw [walkP.eq_def]
  simp [h1, h2]
theorem escS_cons (b : UInt8) (x : List UInt8) : escS (b :: x) = escP b ++ escS x := by simp [escS]
theorem walkP_esc : ∀ (x r : List UInt8) (done : List (List UInt8)) (cur : List UInt8), walkP (escS x ++ r) done cur = walkP r done (cur ++ x)
  | [], r, done, cur => by simp [escS]
  | b :: x, r, done, cur => by
    have ih := walkP_esc x r done
    rw [escS_cons]
    unfold escP
    by_cases h1 : b = 126
    · rw [if_pos h1, List.append_assoc]
      show walkP (126 :: 48 :: (escS x ++ r)) done cur = _
      rw [walkP_tilde, if_neg (by decide), ih, h1]
      simp
    · rw [if_neg h1]
      by_cases h2 : b = 47
      · rw [if_pos h2, List.append_assoc]
        show walkP (126 :: 49 :: (escS x ++ r)) done cur = _
        rw [walkP_tilde, if_pos rfl, ih, h2]
        simp
      · rw [if_neg h2, List.append_assoc]
        show walkP (b :: (escS x ++ r)) done cur = _
        rw [walkP_own h2 h1, ih]
        simp
theorem pathL_cons (x : List UInt8) (ss : List (List UInt8)) : pathL (x :: ss) = 47 :: (escS x ++ pathL ss) := by simp [pathL]
theorem walkP_path : ∀ (ss : List (List UInt8)) (done : List (List UInt8)) (cur : List UInt8), walkP (pathL ss) done cur = some (done ++ cur :: ss)
  | [], done, cur => by simp [pathL, walkP]
  | x :: ss, done, cur => by
    rw [pathL_cons, walkP_slash, walkP_esc, walkP_path ss]
    simp
theorem read_path (ss : List (List UInt8)) : readP (pathL ss) = some ss := by
  cases ss with
  | nil => rfl
  | cons x ss =>
    rw [pathL_cons]
    show walkP (escS x ++ pathL ss) [] [] = _
    rw [walkP_esc, walkP_path]
    simp
end Go.Proofs.YtlgonfdodmipeaaDoor
