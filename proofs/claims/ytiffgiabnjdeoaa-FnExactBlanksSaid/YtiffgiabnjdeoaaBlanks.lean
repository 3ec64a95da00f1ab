/-
  Blanks: a text without the blanks that stand outside its strings.
-/
import Derived.Test.YtiffgiabnjdeoaaKit
namespace Go.Proofs.Ytiffgiabnjdeoaa
open Go.RowKit
set_option linter.unusedVariables false

def isBl (c : UInt8) : Bool := c == 32 || c == 10 || c == 13 || c == 9
/-- Inside a string, behind an odd backslash there. -/
def blSt (p : Bool × Bool) (c : UInt8) : Bool × Bool := if p.2 then (p.1, false) else if c == 34 then (!p.1, false) else if p.1 && c == 92 then (p.1, true) else p
def blS (l : List UInt8) : Bool × Bool := l.foldl blSt (false, false)
def blGo : Bool × Bool → List UInt8 → List UInt8
  | _, [] => []
  | p, c :: l => (if p.1 || !isBl c then [c] else []) ++ blGo (blSt p c) l
def blOut (l : List UInt8) : List UInt8 := blGo (false, false) l
theorem blGo_snoc (l : List UInt8) (c : UInt8) : ∀ p, blGo p (l ++ [c]) = blGo p l ++ (if (l.foldl blSt p).1 || !isBl c then [c] else []) := by
  induction l with
  | nil => intro p; simp [blGo]
  | cons d l ih => intro p; simp [blGo, ih]
theorem blOut_snoc (l : List UInt8) (c : UInt8) : blOut (l ++ [c]) = blOut l ++ (if (blS l).1 || !isBl c then [c] else []) := blGo_snoc l c _
theorem blS_snoc (l : List UInt8) (c : UInt8) : blS (l ++ [c]) = blSt (blS l) c := by simp [blS]
theorem blOut_le (l : List UInt8) : (blOut l).length ≤ l.length := by
  have h : ∀ (l : List UInt8) p, (blGo p l).length ≤ l.length := by
    intro l
    induction l with
    | nil => intro p; simp [blGo]
    | cons d l ih => intro p; simp only [blGo, List.length_append, List.length_cons]; have := ih (blSt p d); split <;> simp <;> omega
  exact h l _

theorem eq_num (c : UInt8) (n : Nat) (h : n < 256) : ((c.toNat : Int) == (n : Int)) = (c == UInt8.ofNat n) := by
  rw [Bool.eq_iff_iff]
  simp only [beq_iff_eq]
  constructor
  · intro h1
    have h2 : c.toNat = n := by omega
    rw [← h2]; simp
  · intro h1
    rw [h1, UInt8.toNat_ofNat']
    omega

theorem specBlank (c : UInt8) (w : World) : Calls Try.prog 38 #[.int .u8 c.toNat] w fun e w' => e = .returned (.bool (isBl c)) ∧ w = w' := by
  have h1 := eq_num c 32 (by omega)
  have h2 := eq_num c 10 (by omega)
  have h3 := eq_num c 13 (by omega)
  have h4 := eq_num c 9 (by omega)
  unfold isBl
  cases hc1 : (c == 32) <;> cases hc2 : (c == 10) <;> cases hc3 : (c == 13) <;> cases hc4 : (c == 9) <;>
  ( have e1 : ((c.toNat : Int) == 32) = _ := h1.trans hc1
    have e2 : ((c.toNat : Int) == 10) = _ := h2.trans hc2
    have e3 : ((c.toNat : Int) == 13) = _ := h3.trans hc3
    have e4 : ((c.toNat : Int) == 9) = _ := h4.trans hc4
    clear h1 h2 h3 h4
    go_enter Try.func38, Try.ntmps38
    go_wp2
    go_ret
    exact ⟨rfl, rfl⟩)

theorem implBlank (c : UInt8) (w : World) : Calls Try.prog 39 #[.int .u8 c.toNat] w fun e w' => e = .returned (.bool (isBl c)) ∧ w = w' := by
  have h1 := eq_num c 32 (by omega)
  have h2 := eq_num c 10 (by omega)
  have h3 := eq_num c 13 (by omega)
  have h4 := eq_num c 9 (by omega)
  unfold isBl
  cases hc1 : (c == 32) <;> cases hc2 : (c == 10) <;> cases hc3 : (c == 13) <;> cases hc4 : (c == 9) <;>
  ( have e1 : ((c.toNat : Int) == 32) = _ := h1.trans hc1
    have e2 : ((c.toNat : Int) == 10) = _ := h2.trans hc2
    have e3 : ((c.toNat : Int) == 13) = _ := h3.trans hc3
    have e4 : ((c.toNat : Int) == 9) = _ := h4.trans hc4
    clear h1 h2 h3 h4
    go_enter Try.func39, Try.ntmps39
    go_wp2
    go_ret
    exact ⟨rfl, rfl⟩)
theorem isBlank_at (c : UInt8) (b : Bool) (h : isBl c = b) (w : World) : Calls Try.prog 39 #[.int .u8 c.toNat] w fun e w' => e = .returned (.bool b) ∧ w = w' := by
  subst h; exact implBlank c w
theorem l04Blank_at (c : UInt8) (b : Bool) (h : isBl c = b) (w : World) : Calls Try.prog 38 #[.int .u8 c.toNat] w fun e w' => e = .returned (.bool b) ∧ w = w' := by
  subst h; exact specBlank c w

/-- What one byte does. -/
theorem bl_step (l : List UInt8) (c : UInt8) (a b a' b' k : Bool) (h : blS l = (a, b)) (hs : blSt (a, b) c = (a', b')) (hk : (a || !isBl c) = k) :
    blS (l ++ [c]) = (a', b') ∧ blOut (l ++ [c]) = blOut l ++ (if k then [c] else []) := by
  constructor
  · rw [blS_snoc, h, hs]
  · rw [blOut_snoc, h]
    simp only [hk]

/-- What the reference's loop holds behind k bytes. -/
def BlSpec (s : ByteArray) (w : World) (v a b i : Value) (wr : World) : Prop :=
  ∃ k : Nat, k ≤ s.size ∧ i = .int .i64 k ∧ a = .bool (blS (s.data.toList.take k)).1 ∧ b = .bool (blS (s.data.toList.take k)).2 ∧
    wr.ownsRow w.heap.size 5 1 v (blOut (s.data.toList.take k)).length ((blOut (s.data.toList.take k)).map bv) ∧ Below w.heap.size w wr

theorem bl_keep {s : ByteArray} {w wr : World} {k : Nat} (hlt : k < s.size) {v : Value} {a b a' b' : Bool} (h : blS (s.data.toList.take k) = (a, b)) (hs : blSt (a, b) s[k] = (a', b')) (hk : (a || !isBl s[k]) = true)
    (hown : wr.ownsRow w.heap.size 5 1 v ((blOut (s.data.toList.take k)).length + 1) ((blOut (s.data.toList.take k)).map bv ++ [bv s[k]])) (hb : Below w.heap.size w wr) :
    BlSpec s w v (.bool a') (.bool b') (.int .i64 ((k : Int) + 1)) wr := by
  have h1 := bl_step _ s[k] a b a' b' true h hs hk
  rw [← take_snoc s k hlt] at h1
  refine ⟨k + 1, hlt, by go_num, by rw [h1.1], by rw [h1.1], ?_, hb⟩
  rw [h1.2]
  simpa using hown
theorem bl_drop {s : ByteArray} {w wr : World} {k : Nat} (hlt : k < s.size) {v : Value} {a b a' b' : Bool} (h : blS (s.data.toList.take k) = (a, b)) (hs : blSt (a, b) s[k] = (a', b')) (hk : (a || !isBl s[k]) = false)
    (hown : wr.ownsRow w.heap.size 5 1 v (blOut (s.data.toList.take k)).length ((blOut (s.data.toList.take k)).map bv)) (hb : Below w.heap.size w wr) :
    BlSpec s w v (.bool a') (.bool b') (.int .i64 ((k : Int) + 1)) wr := by
  have h1 := bl_step _ s[k] a b a' b' false h hs hk
  rw [← take_snoc s k hlt] at h1
  refine ⟨k + 1, hlt, by go_num, by rw [h1.1], by rw [h1.1], ?_, hb⟩
  rw [h1.2]
  simpa using hown

set_option maxHeartbeats 4000000 in
theorem specBlanks (s : ByteArray) (w : World) (hs : s.size ≤ 1048576) :
    Calls Try.prog 21 #[.string s] w fun e w' => e = .returned (.string (str (blOut s.data.toList))) ∧ Below w.heap.size w w' := by
  go_enter Try.func21, Try.ntmps21
  go_wp2
  go_loopw [3, 4, 5, 6] (fun v a b i wr => BlSpec s w v a b i wr) (fun _ _ _ i _ => s.size - (intOf i).toNat)
  case atStart => exact ⟨0, Nat.zero_le _, rfl, rfl, rfl, own_empty w _ _, (Below.refl _ _).alloc (Nat.le_refl _) _⟩
  case round =>
    obtain ⟨k, hk, rfl, rfl, rfl, hown, hb⟩ := hrel
    by_cases hlt : k < s.size
    · have hle : (blOut (s.data.toList.take k)).length ≤ k := Nat.le_trans (blOut_le _) (List.length_take_le _ _)
      obtain ⟨⟨a, b⟩, hq⟩ : ∃ q, blS (s.data.toList.take k) = q := ⟨_, rfl⟩
      have e1 := eq_num s[k] 34 (by omega)
      have e2 := eq_num s[k] 92 (by omega)
      rw [hq]
      have HQ := Lib.hid hq
      clear hq
      cases a <;> cases b <;> cases h34 : (s[k] == 34) <;> cases h92 : (s[k] == 92) <;> cases hbl : isBl s[k] <;>
      ( have f1 : ((s[k].toNat : Int) == 34) = _ := e1.trans h34
        have f2 : ((s[k].toNat : Int) == 92) = _ := e2.trans h92
        have HB := Lib.hid hbl
        have H34 := Lib.hid h34
        have H92 := Lib.hid h92
        clear e1 e2 h34 h92 hbl
        go_wp2_with (first
          | (go_at_call 38; refine (l04Blank_at _ _ HB.out _).mono ?_; rintro e w1 ⟨rfl, rfl⟩)
          | (at_builtin; refine wpList_app rfl (.tmp 22) (.tmp 26) 48 rfl w.heap.size 5 Try.underlying48 infoU8 rfl (by decide) rfl (hown.alloc _) (hb.alloc hb.size _) (Nat.le_trans hb.size (by simp)) _ 1 1 _ rfl rfl (cells_new _ _ _) (one_u8 _) (by unfold maxLen; omega) (by omega) ?_; intro v' w' hown' hb' hB'))
        go_roundw
        case rel => first | exact bl_keep hlt HQ.out (by simp [blSt, H34.out, H92.out]) (by rw [HB.out]; rfl) hown' hb' | exact bl_drop hlt HQ.out (by simp [blSt, H34.out, H92.out]) (by rw [HB.out]; rfl) hown hb
        case measure => simp [intOf]; omega)
    · obtain rfl : k = s.size := by omega
      have hcv := run_string_own (P := Try.prog) 48 9 5 Try.underlying48 Try.underlying5 Try.underlying9 hown
      clear hown
      go_wp2
      go_ret
      exact ⟨ret_eq (congrArg (fun l => Value.string (str (blOut l))) (List.take_of_length_le (by simp))), hb⟩

/-- What the program's loop holds behind k bytes. -/
def BlImpl (s : ByteArray) (w : World) (v a b i : Value) (wr : World) : Prop :=
  ∃ (k : Nat) (o : Bool), k ≤ s.size ∧ i = .int .i64 k ∧ a = .bool (blS (s.data.toList.take k)).1 ∧ b = .bool o ∧ (blS (s.data.toList.take k)).2 = ((blS (s.data.toList.take k)).1 && o) ∧
    wr.ownsRow w.heap.size 5 1 v (blOut (s.data.toList.take k)).length ((blOut (s.data.toList.take k)).map bv) ∧ Below w.heap.size w wr
theorem bl_keepI {s : ByteArray} {w wr : World} {k : Nat} (hlt : k < s.size) {v : Value} {a o a' o' : Bool} (h : blS (s.data.toList.take k) = (a, a && o)) (hs : blSt (a, a && o) s[k] = (a', a' && o')) (hk : (a || !isBl s[k]) = true)
    (hown : wr.ownsRow w.heap.size 5 1 v ((blOut (s.data.toList.take k)).length + 1) ((blOut (s.data.toList.take k)).map bv ++ [bv s[k]])) (hb : Below w.heap.size w wr) :
    BlImpl s w v (.bool a') (.bool o') (.int .i64 ((k : Int) + 1)) wr := by
  have h1 := bl_step _ s[k] a _ a' _ true h hs hk
  rw [← take_snoc s k hlt] at h1
  refine ⟨k + 1, o', hlt, by go_num, by rw [h1.1], rfl, by rw [h1.1], ?_, hb⟩
  rw [h1.2]
  simpa using hown
theorem bl_dropI {s : ByteArray} {w wr : World} {k : Nat} (hlt : k < s.size) {v : Value} {a o a' o' : Bool} (h : blS (s.data.toList.take k) = (a, a && o)) (hs : blSt (a, a && o) s[k] = (a', a' && o')) (hk : (a || !isBl s[k]) = false)
    (hown : wr.ownsRow w.heap.size 5 1 v (blOut (s.data.toList.take k)).length ((blOut (s.data.toList.take k)).map bv)) (hb : Below w.heap.size w wr) :
    BlImpl s w v (.bool a') (.bool o') (.int .i64 ((k : Int) + 1)) wr := by
  have h1 := bl_step _ s[k] a _ a' _ false h hs hk
  rw [← take_snoc s k hlt] at h1
  refine ⟨k + 1, o', hlt, by go_num, by rw [h1.1], rfl, by rw [h1.1], ?_, hb⟩
  rw [h1.2]
  simpa using hown
/-- A blank is no sign of a text's edge. -/
theorem bl_not (c : UInt8) (h : isBl c = true) : (c == 34) = false ∧ (c == 92) = false := by
  unfold isBl at h
  simp only [Bool.or_eq_true, beq_iff_eq] at h
  rcases h with ((rfl | rfl) | rfl) | rfl <;> exact ⟨by decide, by decide⟩

theorem bl_both (c : UInt8) (h1 : (c == 34) = true) (h2 : (c == 92) = true) : False := by
  simp only [beq_iff_eq] at h1 h2
  rw [h1] at h2
  exact absurd h2 (by decide)

set_option maxHeartbeats 4000000 in
theorem implBlanks (s : ByteArray) (w : World) (hs : s.size ≤ 1048576) :
    Calls Try.prog 22 #[.string s] w fun e w' => e = .returned (.string (str (blOut s.data.toList))) ∧ Below w.heap.size w w' := by
  go_enter Try.func22, Try.ntmps22
  go_wp2
  go_loopw [3, 4, 5, 11] (fun v a b i wr => BlImpl s w v a b i wr) (fun _ _ _ i _ => s.size - (intOf i).toNat)
  case atStart => exact ⟨0, false, Nat.zero_le _, rfl, rfl, rfl, rfl, own_empty w _ _, (Below.refl _ _).alloc (Nat.le_refl _) _⟩
  case round =>
    obtain ⟨k, o, hk, rfl, rfl, rfl, ho, hown, hb⟩ := hrel
    by_cases hlt : k < s.size
    · have hle : (blOut (s.data.toList.take k)).length ≤ k := Nat.le_trans (blOut_le _) (List.length_take_le _ _)
      obtain ⟨a, ha⟩ : ∃ a, (blS (s.data.toList.take k)).1 = a := ⟨_, rfl⟩
      rw [ha] at ho ⊢
      have HQ : Hid (blS (s.data.toList.take k) = (a, a && o)) := Prod.ext ha ho
      clear ha ho
      have e1 := eq_num s[k] 34 (by omega)
      have e2 := eq_num s[k] 92 (by omega)
      cases hbl : isBl s[k]
      · cases a <;> cases o <;> cases h34 : (s[k] == 34) <;> cases h92 : (s[k] == 92) <;>
        ( have f1 : ((s[k].toNat : Int) == 34) = _ := e1.trans h34
          have f2 : ((s[k].toNat : Int) == 92) = _ := e2.trans h92
          have HB := Lib.hid hbl
          have H34 := Lib.hid h34
          have H92 := Lib.hid h92
          clear e1 e2 h34 h92 hbl
          go_wp2_with (first
            | (go_at_call 39; refine (isBlank_at _ _ HB.out _).mono ?_; rintro e w1 ⟨rfl, rfl⟩)
            | (at_builtin; refine wpList_app rfl (.tmp 40) (.tmp 42) 48 rfl w.heap.size 5 Try.underlying48 infoU8 rfl (by decide) rfl (hown.alloc _) (hb.alloc hb.size _) (Nat.le_trans hb.size (by simp)) _ 1 1 _ rfl rfl (cells_new _ _ _) (one_u8 _) (by unfold maxLen; omega) (by omega) ?_; intro v' w' hown' hb' hB'))
          go_roundw
          case rel => first | exact (bl_both _ H34.out H92.out).elim | exact bl_keepI hlt HQ.out (by simp [blSt, H34.out, H92.out]) (by rw [HB.out]; rfl) hown' hb'
          case measure => simp [intOf]; omega)
      · obtain ⟨h34, h92⟩ := bl_not _ hbl
        have f1 : ((s[k].toNat : Int) == 34) = _ := e1.trans h34
        have f2 : ((s[k].toNat : Int) == 92) = _ := e2.trans h92
        have HB := Lib.hid hbl
        have H34 := Lib.hid h34
        have H92 := Lib.hid h92
        clear e1 e2 h34 h92 hbl
        cases a <;> cases o <;>
        ( go_wp2_with (first
            | (go_at_call 39; refine (isBlank_at _ _ HB.out _).mono ?_; rintro e w1 ⟨rfl, rfl⟩)
            | (at_builtin; refine wpList_app rfl (.tmp 40) (.tmp 42) 48 rfl w.heap.size 5 Try.underlying48 infoU8 rfl (by decide) rfl (hown.alloc _) (hb.alloc hb.size _) (Nat.le_trans hb.size (by simp)) _ 1 1 _ rfl rfl (cells_new _ _ _) (one_u8 _) (by unfold maxLen; omega) (by omega) ?_; intro v' w' hown' hb' hB'))
          go_roundw
          case rel => first | exact bl_keepI hlt HQ.out (by simp [blSt, H34.out, H92.out]) (by rw [HB.out]; rfl) hown' hb' | exact bl_dropI hlt HQ.out (by simp [blSt, H34.out, H92.out]) (by rw [HB.out]; rfl) hown hb
          case measure => simp [intOf]; omega)
    · obtain rfl : k = s.size := by omega
      have hcv := run_string_own (P := Try.prog) 48 9 5 Try.underlying48 Try.underlying5 Try.underlying9 hown
      clear hown ho
      go_wp2
      go_ret
      exact ⟨ret_eq (congrArg (fun l => Value.string (str (blOut l))) (List.take_of_length_le (by simp))), hb⟩
end Go.Proofs.Ytiffgiabnjdeoaa
