/-
  The texts on which the last one leans, part 1: Base, Plain, Kit, Tree, Lies, InfoV, Row, At1, Draw1, Draw2, Int.
-/
import Derived.Test.YtcjamnfboifjeaaDoorRows
import Derived.WalkKit
import Derived.ProofKit
import Derived.OpenShut
import Derived.ShutString
import Derived.ChangeOld
import Derived.Below
import Derived.WalkSpells
import Derived.WalkLawsBesides
import Derived.Lib.Hide
import Derived.Laws.BitsAllLaws
import Derived.Laws.OwnMore
import Derived.RegionTactic
import Derived.OwnWalk
import Derived.Deep.Draws
import Derived.Laws.IdiomStrings
import Derived.Maps.AppendAt
import Derived.Deep.Slices
import Derived.Laws.Rows
import Derived.ChangeSlices
import Derived.SliceStrings
import Derived.BigQuiet
import Derived.Deep.RegionHeld3
/-
  Facts about the program that every text of this seat uses.
-/
namespace Go.Proofs.YtcjamnfboifjeaaDoor
open Go.ChangeShapes Go.WideShapes Go.ChangeAt Go.RowKit
theorem own : ownKnob Tryd.prog.godebug = none := by kernel_rfl
theorem laidOut : laidOutB Tryd.prog = true := by kernel_rfl
end Go.Proofs.YtcjamnfboifjeaaDoor

/-
  Plain facts on lists of bytes; no program.
-/
namespace Go.Proofs.YtcjamnfboifjeaaDoor
open Go.RowKit

/-- A byte as a value. -/
def bv (b : UInt8) : Value := .int .u8 (b.toNat : Int)

theorem bv_one (l : List UInt8) : ∀ u ∈ l.map bv, u.oneCell' = true := by
  intro u hu
  obtain ⟨_, _, rfl⟩ := List.mem_map.1 hu
  rfl

/-- The text of a list of bytes. -/
def str (l : List UInt8) : ByteArray := ⟨l.toArray⟩

/-- One hexadecimal digit. -/
def hexD (n : Nat) : UInt8 := if n < 10 then UInt8.ofNat (48 + n) else UInt8.ofNat (87 + n)
def hexOf (l : List UInt8) : List UInt8 := l.flatMap fun b => [hexD (b.toNat / 16), hexD (b.toNat % 16)]
theorem hexOf_len (l : List UInt8) : (hexOf l).length = 2 * l.length := by
  induction l with
  | nil => rfl
  | cons b l ih => simp only [hexOf, List.flatMap_cons, List.length_append, List.length_cons, List.length_nil] at *; omega
theorem hexOf_snoc (l : List UInt8) (b : UInt8) : hexOf (l ++ [b]) = hexOf l ++ [hexD (b.toNat / 16), hexD (b.toNat % 16)] := by
  simp [hexOf]
theorem take_snoc (s : ByteArray) (k : Nat) (h : k < s.size) : s.data.toList.take (k + 1) = s.data.toList.take k ++ [s[k]] := by
  rw [List.take_succ_eq_append_getElem (by simpa using h)]; rfl

theorem and15 (n : Nat) (h : n < 256) : bits .and .u8 (n : Int) 15 = ((n % 16 : Nat) : Int) := by
  rw [show (15 : Int) = ((15 : Nat) : Int) from rfl, u8_and_nat n 15 h (by omega)]
  congr 1
  exact Nat.and_two_pow_sub_one_eq_mod n 4
/-- The text of the sixteen digits. -/
theorem digit_at (n : Nat) (h : n < 16) : ∃ hn, (ByteArray.mk #[48, 49, 50, 51, 52, 53, 54, 55, 56, 57, 97, 98, 99, 100, 101, 102])[n]'hn = hexD n := by
  refine ⟨h, ?_⟩
  have : ∀ m : Fin 16, (ByteArray.mk #[48, 49, 50, 51, 52, 53, 54, 55, 56, 57, 97, 98, 99, 100, 101, 102])[m.val]'m.isLt = hexD m.val := by decide
  exact this ⟨n, h⟩
theorem digit_at' (n : Nat) (hn) : (ByteArray.mk #[48, 49, 50, 51, 52, 53, 54, 55, 56, 57, 97, 98, 99, 100, 101, 102])[n]'hn = hexD n := (digit_at n hn).2
theorem hex_cells (n : Nat) (p q) : #[Value.int .u8 (((ByteArray.mk #[48, 49, 50, 51, 52, 53, 54, 55, 56, 57, 97, 98, 99, 100, 101, 102])[((n : Int) / 16).toNat]'p).toNat : Int), Value.int .u8 (((ByteArray.mk #[48, 49, 50, 51, 52, 53, 54, 55, 56, 57, 97, 98, 99, 100, 101, 102])[((n : Int) % 16).toNat]'q).toNat : Int)].toList = [hexD (n / 16), hexD (n % 16)].map bv := by
  rw [digit_at', digit_at']
  have e1 : ((n : Int) / 16).toNat = n / 16 := by omega
  have e2 : ((n : Int) % 16).toNat = n % 16 := by omega
  rw [e1, e2]
  rfl
theorem quo16 (n : Nat) (h : n < 256) : IntKind.u8.wrap ((n : Int) / 16) = (n : Int) / 16 := by
  rw [IntKind.wrap_u8']; omega
theorem rem16 (n : Nat) : (n : Int).tmod 16 = (n : Int) % 16 := Int.tmod_eq_emod_of_nonneg (by omega)
end Go.Proofs.YtcjamnfboifjeaaDoor

/-
  Laws for this seat's walks: an append onto a row of the call's own, said together with what lay below.
-/
namespace Go.Proofs.YtcjamnfboifjeaaDoor
open Go.RowKit

section
variable {P : Program} {ops : Array Oper} {o : Oper} {a : Act} {w : World} {K : Act → World → Prop} {Q : Exit → Act → World → Prop}

theorem wp_app (s x : Operand) (t : TypeId) (ho : o.op = .call { callee := .builtin .append, args := #[s, x], argTypes := #[t, t] })
    (base : Nat) (e : TypeId) {z : Value} {size bytes : Nat} (ht : P.underlying t = some (.slice e)) (hinfo : (P.info? e).map (fun i => (i.zero, i.size, i.bytes)) = some (some z, size, bytes)) (hzs : z.cells.size = size) (hsz : 0 < size)
    {W : World} {v : Value} {n : Nat} {xs : List Value} (hs : a.eval s = v) (hown : w.ownsRow base e size v n xs) (hb : Below base W w) (hB : base ≤ w.heap.size)
    (ad : Addr) (m c : Nat) (news : List Value) (hx : a.eval x = .slice (some ad) m c) (hl : news.length = m * size) (hnews : ∀ j u, news[j]? = some u → w.cell? (ad.add j) = some u) (h1 : ∀ u ∈ news, u.oneCell' = true)
    (h63 : n + m ≤ maxLen) (hbytes : (n + m) * bytes ≤ 140737488355328)
    (h : ∀ v' w', w'.ownsRow base e size v' (n + m) (xs ++ news) → Below base W w' → base ≤ w'.heap.size → K (a.put o.dst v') w') : o.wp P a w K Q := by
  obtain ⟨i, hi, hz, hsize, hby⟩ := info_parts hinfo
  obtain ⟨v', w', hrun, h2, h3, h4⟩ := run_append_own (P := P) w base t o.type e i z size bytes ht hi hz hsize hby hzs hsz v n xs hown ad m c news hl hnews h1 h63 hbytes hB
  unfold Oper.wp execOp
  simp only [ho, resolve, invoke, builtin, Sem.run_bind, Sem.run_pure, Result.andThen_ok, List.map_toArray, List.map_cons, List.map_nil, hs, hx, hrun]
  exact h v' w' h2 (hb.grown h3 hB (fun k hk => (hown.lt k hk).1)) (Nat.le_trans hB h3.size)

/-- The same as a step of a list of operations. -/
theorem wpList_app {rest : List Oper} (hgd : o.guard = none) (s x : Operand) (t : TypeId) (ho : o.op = .call { callee := .builtin .append, args := #[s, x], argTypes := #[t, t] })
    (base : Nat) (e : TypeId) {z : Value} {size bytes : Nat} (ht : P.underlying t = some (.slice e)) (hinfo : (P.info? e).map (fun i => (i.zero, i.size, i.bytes)) = some (some z, size, bytes)) (hzs : z.cells.size = size) (hsz : 0 < size)
    {W : World} {v : Value} {n : Nat} {xs : List Value} (hs : a.eval s = v) (hown : w.ownsRow base e size v n xs) (hb : Below base W w) (hB : base ≤ w.heap.size)
    (ad : Addr) (m c : Nat) (news : List Value) (hx : a.eval x = .slice (some ad) m c) (hl : news.length = m * size) (hnews : ∀ j u, news[j]? = some u → w.cell? (ad.add j) = some u) (h1 : ∀ u ∈ news, u.oneCell' = true)
    (h63 : n + m ≤ maxLen) (hbytes : (n + m) * bytes ≤ 140737488355328)
    (h : ∀ v' w', w'.ownsRow base e size v' (n + m) (xs ++ news) → Below base W w' → base ≤ w'.heap.size → wpList P ops Q rest (a.put o.dst v') w') : wpList P ops Q (o :: rest) a w :=
  wpList_plain hgd fun _ hK => wp_app s x t ho base e ht hinfo hzs hsz hs hown hb hB ad m c news hx hl hnews h1 h63 hbytes fun v' w' h2 h3 h4 => hK _ _ (h v' w' h2 h3 h4)

/-- An append that says which block the row lies in behind it. -/
theorem wpList_app2 {rest : List Oper} (hgd : o.guard = none) (s x : Operand) (t : TypeId) (ho : o.op = .call { callee := .builtin .append, args := #[s, x], argTypes := #[t, t] })
    (base : Nat) (e : TypeId) {z : Value} {size bytes : Nat} (ht : P.underlying t = some (.slice e)) (hinfo : (P.info? e).map (fun i => (i.zero, i.size, i.bytes)) = some (some z, size, bytes)) (hzs : z.cells.size = size) (hsz : 0 < size)
    {v : Value} {n : Nat} {xs : List Value} (hs : a.eval s = v) (hown : w.ownsRow base e size v n xs) (hB : base ≤ w.heap.size)
    (ad : Addr) (m c : Nat) (news : List Value) (hx : a.eval x = .slice (some ad) m c) (hl : news.length = m * size) (hnews : ∀ j u, news[j]? = some u → w.cell? (ad.add j) = some u) (h1 : ∀ u ∈ news, u.oneCell' = true)
    (h63 : n + m ≤ maxLen) (hbytes : (n + m) * bytes ≤ 140737488355328)
    (h : ∀ v' w', w'.ownsRow base e size v' (n + m) (xs ++ news) → w.grownBy w' v.ownBlock → (v'.ownBlock = v.ownBlock ∨ v'.ownBlock = some w.heap.size) → wpList P ops Q rest (a.put o.dst v') w') : wpList P ops Q (o :: rest) a w :=
  wpList_plain hgd fun _ hK => by
    obtain ⟨i, hi, hz, hsize, hby⟩ := info_parts hinfo
    obtain ⟨v', w', hrun, h2, h3, h4, h5⟩ := run_append_own_at (P := P) w base t o.type e i z size bytes ht hi hz hsize hby hzs hsz v n xs hown ad m c news hl hnews h1 h63 hbytes hB
    unfold Oper.wp execOp
    simp only [ho, resolve, invoke, builtin, Sem.run_bind, Sem.run_pure, Result.andThen_ok, List.map_toArray, List.map_cons, List.map_nil, hs, hx, hrun]
    exact hK _ _ (h v' w' h2 h3 h5)
/-- An append that says besides when the row is nil. -/
theorem wpList_app3 {rest : List Oper} (hgd : o.guard = none) (s x : Operand) (t : TypeId) (ho : o.op = .call { callee := .builtin .append, args := #[s, x], argTypes := #[t, t] })
    (base : Nat) (e : TypeId) {z : Value} {size bytes : Nat} (ht : P.underlying t = some (.slice e)) (hinfo : (P.info? e).map (fun i => (i.zero, i.size, i.bytes)) = some (some z, size, bytes)) (hzs : z.cells.size = size) (hsz : 0 < size)
    {v : Value} {n : Nat} {xs : List Value} (hs : a.eval s = v) (hown : w.ownsRow base e size v n xs) (hB : base ≤ w.heap.size)
    (ad : Addr) (m c : Nat) (news : List Value) (hx : a.eval x = .slice (some ad) m c) (hl : news.length = m * size) (hnews : ∀ j u, news[j]? = some u → w.cell? (ad.add j) = some u) (h1 : ∀ u ∈ news, u.oneCell' = true)
    (h63 : n + m ≤ maxLen) (hbytes : (n + m) * bytes ≤ 140737488355328)
    (h : ∀ v' w', w'.ownsRow base e size v' (n + m) (xs ++ news) → w.grownBy w' v.ownBlock → (v'.ownBlock = v.ownBlock ∨ v'.ownBlock = some w.heap.size) → (v' = .slice none 0 0 ↔ v = .slice none 0 0 ∧ m = 0) → wpList P ops Q rest (a.put o.dst v') w') : wpList P ops Q (o :: rest) a w :=
  wpList_plain hgd fun _ hK => by
    obtain ⟨i, hi, hz, hsize, hby⟩ := info_parts hinfo
    obtain ⟨v', w', hrun, h2, h3, h4, h5⟩ := run_append_own_at (P := P) w base t o.type e i z size bytes ht hi hz hsize hby hzs hsz v n xs hown ad m c news hl hnews h1 h63 hbytes hB
    unfold Oper.wp execOp
    simp only [ho, resolve, invoke, builtin, Sem.run_bind, Sem.run_pure, Result.andThen_ok, List.map_toArray, List.map_cons, List.map_nil, hs, hx, hrun]
    exact hK _ _ (h v' w' h2 h3 h5 h4)
/-- The same as one step of a region that draws its order. -/
theorem step_app {E : Prop} (hgd : o.guard = none) (s x : Operand) (t : TypeId) (ho : o.op = .call { callee := .builtin .append, args := #[s, x], argTypes := #[t, t] })
    (base : Nat) (e : TypeId) {z : Value} {size bytes : Nat} (ht : P.underlying t = some (.slice e)) (hinfo : (P.info? e).map (fun i => (i.zero, i.size, i.bytes)) = some (some z, size, bytes)) (hzs : z.cells.size = size) (hsz : 0 < size)
    {W : World} {v : Value} {n : Nat} {xs : List Value} (hs : a.eval s = v) (hown : w.ownsRow base e size v n xs) (hb : Below base W w) (hB : base ≤ w.heap.size)
    (ad : Addr) (m c : Nat) (news : List Value) (hx : a.eval x = .slice (some ad) m c) (hl : news.length = m * size) (hnews : ∀ j u, news[j]? = some u → w.cell? (ad.add j) = some u) (h1 : ∀ u ∈ news, u.oneCell' = true)
    (h63 : n + m ≤ maxLen) (hbytes : (n + m) * bytes ≤ 140737488355328)
    (h : ∀ v' w', w'.ownsRow base e size v' (n + m) (xs ++ news) → Below base W w' → base ≤ w'.heap.size → K (a.put o.dst v') w') :
    if Region.wanted o (yielded ops a.tmps) = true then Oper.wp P o a w K Q else E := by
  rw [if_pos (by simp [Region.wanted, hgd])]
  exact wp_app s x t ho base e ht hinfo hzs hsz hs hown hb hB ad m c news hx hl hnews h1 h63 hbytes h
end

/-- The cells of a block that has just been laid. -/
theorem cells_new (w : World) (cs : Array Value) (t : TypeId) : ∀ (j : Nat) (u : Value), cs.toList[j]? = some u → (w.alloc (.cells cs t)).cell? ((⟨w.heap.size, 0, none⟩ : Addr).add j) = some u := by
  intro j u hu
  rw [Addr.add_lit, Nat.zero_add, World.cell?_alloc_mark]
  simpa using hu
theorem cells_newD (w : World) (cs : Array Value) (t : TypeId) : ∀ (j : Nat) (u : Value), cs.toList[j]? = some u → ((w.alloc (.cells cs t)).drew).cell? ((⟨w.heap.size, 0, none⟩ : Addr).add j) = some u := cells_new w cs t
theorem one_u8 (a : Int) : ∀ u ∈ #[Value.int .u8 a].toList, u.oneCell' = true := by
  intro u hu; simp at hu; subst hu; rfl
theorem ones_u8 (a b : Int) : ∀ u ∈ #[Value.int .u8 a, Value.int .u8 b].toList, u.oneCell' = true := by
  intro u hu; simp at hu; rcases hu with rfl | rfl <;> rfl
theorem below_drewN {B : Nat} {a w : World} (h : Below B a w) (n : Nat) : Below B a (w.drewN n) := ⟨h.os, h.tape, h.output, h.size, h.block⟩
theorem own_drewN {w : World} {base e size n : Nat} {v : Value} {xs : List Value} (h : w.ownsRow base e size v n xs) (k : Nat) : (w.drewN k).ownsRow base e size v n xs := h
theorem ret_eq {v v' : Value} (h : v = v') : Ending.returned v = Ending.returned v' := by rw [h]
/-- '[]T{}' owns nothing. -/
theorem own_empty (w : World) (e : TypeId) (size : Nat) : (w.alloc (.cells #[] e)).ownsRow w.heap.size e size (.slice (some ⟨w.heap.size, 0, none⟩) 0 0) 0 [] :=
  World.ownsRow_made w #[] 0 (Nat.le_refl _) (Nat.zero_le _) (by simp)
/-- 'string(b)' of a row of the call's own. -/
theorem run_string_own {P : Program} {w : World} (src dst e : TypeId) (hs : P.underlying src = some (.slice e)) (he : P.underlying e = some (.int .u8)) (hd : P.underlying dst = some .string)
    {base n : Nat} {v : Value} {l : List UInt8} (hown : w.ownsRow base e 1 v n (l.map bv)) : (convert src dst v).run P w = .ok (.string (str l)) w := by
  obtain ⟨hlen, h | ⟨g, cap, cur, rfl, h1, h2, h3, h4, h5, h6⟩⟩ := hown
  · obtain ⟨rfl, rfl⟩ := h
    have hl : l = [] := by simpa using hlen
    subst hl
    rw [run_convert_bytes_string w src dst e none 0 0 hs he hd]
    simp [Conv.bytesToString, Sem.run_pure, str]
    rfl
  · have hn : n = l.length := by simpa using hlen.symm
    subst hn
    refine run_convert_bytes_back w src dst e ⟨g, 0, none⟩ cap l hs he hd (fun j hj => ?_)
    have hc := World.ownsRow.cellAt (w := w) (base := base) (e := e) (size := 1) (g := g) (n := l.length) (cap := cap) (xs := l.map bv) ⟨hlen, .inr ⟨g, cap, cur, rfl, h1, h2, h3, h4, h5, h6⟩⟩ j (by omega)
    rw [Addr.add_lit, Nat.zero_add, hc]
    simp [hj, bv]
theorem infoU8 : (Tryd.prog.info? 5).map (fun i => (i.zero, i.size, i.bytes)) = some (some (.int .u8 0), 1, 1) := by kernel_rfl
theorem own_lit1 {base : Nat} (w : World) (e : TypeId) (u : Value) (h : base ≤ w.heap.size) : (w.alloc (.cells #[u] e)).ownsRow base e 1 (.slice (some ⟨w.heap.size, 0, none⟩) 1 1) 1 [u] :=
  World.ownsRow_lit w #[u] 1 h (by unfold maxLen; omega) (by simp)
theorem own_below {w w1 : World} {base e size n : Nat} {v : Value} {xs : List Value} (h : w.ownsRow base e size v n xs) (hb : Below w.heap.size w w1) : w1.ownsRow base e size v n xs :=
  h.kept (row := none) ⟨hb.os, hb.tape, hb.output, hb.size, fun k hk _ => hb.block k hk⟩ (by
    rcases h.2 with ⟨rfl, _⟩ | ⟨g, c, cur, rfl, _⟩
    · exact .inl rfl
    · exact .inr (by simp [Value.ownBlock]))
theorem own_empty' {w : World} {base : Nat} (e : TypeId) (size : Nat) (h : base ≤ w.heap.size) : (w.alloc (.cells #[] e)).ownsRow base e size (.slice (some ⟨w.heap.size, 0, none⟩) 0 0) 0 [] :=
  World.ownsRow_made w #[] 0 h (Nat.zero_le _) (by simp)
theorem own_below' {w w1 : World} {base e size n : Nat} {v : Value} {xs : List Value} (h : w.ownsRow base e size v n xs) {B : Nat} (hB : w.heap.size ≤ B) (hb : Below B w w1) : w1.ownsRow base e size v n xs := by
  exact h.kept (row := none) ⟨hb.os, hb.tape, hb.output, hb.size, fun k hk _ => hb.block k (Nat.lt_of_lt_of_le hk hB)⟩ (by
    rcases h.2 with ⟨rfl, _⟩ | ⟨g, c, cur, rfl, _⟩
    · exact .inl rfl
    · exact .inr (by simp [Value.ownBlock]))
/-- A row is a slice. -/
theorem own_slice {w : World} {base e size n : Nat} {v : Value} {xs : List Value} (h : w.ownsRow base e size v n xs) : ∃ A c, v = .slice A n c := by
  rcases h.2 with ⟨rfl, h0⟩ | ⟨g, c, cur, rfl, _⟩
  · exact ⟨none, 0, by rw [h0]⟩
  · exact ⟨_, _, rfl⟩
end Go.Proofs.YtcjamnfboifjeaaDoor

/-
  Values as trees, plainly; how a tree lies in memory; how an argument is read as one.
-/
namespace Go.Proofs.YtcjamnfboifjeaaDoor
open Go.RowKit Go.ChangeShapes Go.WideShapes Go.Deep
set_option linter.unusedVariables false

theorem ret_num {k : IntKind} {a b : Int} (h : a = b) : Ending.returned (.int k a) = Ending.returned (.int k b) := by rw [h]
theorem ret_bool {a b : Bool} (h : a = b) : Ending.returned (.bool a) = Ending.returned (.bool b) := by rw [h]
/-- Block g holds just these cells, none frozen. -/
def Blk (w : World) (g : Nat) (t : TypeId) (cs : Array Value) : Prop := w.heap[g]? = some (.cells cs t (0, 0))
theorem Blk.new (w : World) (t : TypeId) (cs : Array Value) : Blk (w.alloc (.cells cs t)) w.heap.size t cs := heap_alloc_new w _
theorem Blk.lt {w : World} {g : Nat} {t : TypeId} {cs : Array Value} (h : Blk w g t cs) : g < w.heap.size := by
  rcases Nat.lt_or_ge g w.heap.size with hlt | hge
  · exact hlt
  · unfold Blk at h; rw [Array.getElem?_eq_none hge] at h; cases h
theorem Blk.alloc {w : World} {g : Nat} {t : TypeId} {cs : Array Value} (h : Blk w g t cs) (o : Obj) : Blk (w.alloc o) g t cs := (Below.heap_alloc w o g h.lt).trans h
theorem Blk.below {w w' : World} {B g : Nat} {t : TypeId} {cs : Array Value} (h : Blk w g t cs) (hb : Below B w w') (hg : g < B) : Blk w' g t cs := (hb.block g hg).trans h
theorem Blk.cell {w : World} {g : Nat} {t : TypeId} {cs : Array Value} (h : Blk w g t cs) (i : Nat) : w.cell? ⟨g, i, none⟩ = cs[i]? := cell_of_row w g i cs t (0, 0) h
theorem Blk.frozen {w : World} {g : Nat} {t : TypeId} {cs : Array Value} (h : Blk w g t cs) (i : Nat) : w.frozen? ⟨g, i, none⟩ = false := by
  unfold Blk at h
  simp [World.frozen?, h]
inductive V where
  | mk (k n e : Int) (s : ByteArray) (kids : List V)
def V.k : V → Int | .mk k _ _ _ _ => k
def V.n : V → Int | .mk _ n _ _ _ => n
def V.e : V → Int | .mk _ _ e _ _ => e
def V.s : V → ByteArray | .mk _ _ _ s _ => s
def V.kids : V → List V | .mk _ _ _ _ ks => ks
theorem V.eta (v : V) : v = .mk v.k v.n v.e v.s v.kids := by cases v; rfl

/-- The five cells of a value; its kids' slice is A, with room for cap. -/
def V.agg (v : V) (A : Option Addr) (cap : Nat) : Value := .agg #[.int .i64 v.k, .int .i64 v.n, .int .i64 v.e, .string v.s, .slice A v.kids.length cap]
def CellsAt (w : World) (b off : Nat) (v : V) (A : Option Addr) (cap : Nat) : Prop :=
  w.cell? ⟨b, off, none⟩ = some (.int .i64 v.k) ∧ w.cell? ⟨b, off + 1, none⟩ = some (.int .i64 v.n) ∧ w.cell? ⟨b, off + 2, none⟩ = some (.int .i64 v.e) ∧
  w.cell? ⟨b, off + 3, none⟩ = some (.string v.s) ∧ w.cell? ⟨b, off + 4, none⟩ = some (.slice A v.kids.length cap)

mutual
/-- The kids of a value lie at A, in blocks from lo to hi. -/
def V.at_ (w : World) (lo hi : Nat) : V → Option Addr → Prop
  | .mk _ _ _ _ ks, A => Vs.at_ w lo hi ks A
def Vs.at_ (w : World) (lo hi : Nat) : List V → Option Addr → Prop
  | [], _ => True
  | v :: r, A => (∃ b off A' cap, A = some ⟨b, off, none⟩ ∧ lo ≤ b ∧ b < hi ∧ v.kids.length ≤ cap ∧ CellsAt w b off v A' cap ∧ V.at_ w lo hi v A' ∧ Vs.at_ w lo hi r (some ⟨b, off + 5, none⟩))
end

theorem V.at_kids {w : World} {lo hi : Nat} {v : V} {A : Option Addr} : V.at_ w lo hi v A ↔ Vs.at_ w lo hi v.kids A := by
  cases v; simp [V.at_, V.kids]

mutual
theorem V.at_keep {w w' : World} {lo hi : Nat} (hk : ∀ p : Addr, lo ≤ p.block → p.block < hi → w'.cell? p = w.cell? p) : ∀ (v : V) (A : Option Addr), V.at_ w lo hi v A → V.at_ w' lo hi v A
  | .mk _ _ _ _ ks, A, h => by
    simp only [V.at_] at h ⊢
    exact Vs.at_keep hk ks A h
theorem Vs.at_keep {w w' : World} {lo hi : Nat} (hk : ∀ p : Addr, lo ≤ p.block → p.block < hi → w'.cell? p = w.cell? p) : ∀ (l : List V) (A : Option Addr), Vs.at_ w lo hi l A → Vs.at_ w' lo hi l A
  | [], A, _ => by simp only [Vs.at_]
  | v :: r, A, h => by
    simp only [Vs.at_] at h ⊢
    obtain ⟨b, off, A', cap, rfl, h1, h2, h3, ⟨c0, c1, c2, c3, c4⟩, h5, h6⟩ := h
    have k := fun j => hk ⟨b, j, none⟩ h1 h2
    exact ⟨b, off, A', cap, rfl, h1, h2, h3, ⟨(k _).trans c0, (k _).trans c1, (k _).trans c2, (k _).trans c3, (k _).trans c4⟩, V.at_keep hk v A' h5, Vs.at_keep hk r _ h6⟩
end
mutual
theorem V.at_more {w : World} {lo hi lo' hi' : Nat} (h1 : lo' ≤ lo) (h2 : hi ≤ hi') : ∀ (v : V) (A : Option Addr), V.at_ w lo hi v A → V.at_ w lo' hi' v A
  | .mk _ _ _ _ ks, A, h => by
    simp only [V.at_] at h ⊢
    exact Vs.at_more h1 h2 ks A h
theorem Vs.at_more {w : World} {lo hi lo' hi' : Nat} (h1 : lo' ≤ lo) (h2 : hi ≤ hi') : ∀ (l : List V) (A : Option Addr), Vs.at_ w lo hi l A → Vs.at_ w lo' hi' l A
  | [], A, _ => by simp only [Vs.at_]
  | v :: r, A, h => by
    simp only [Vs.at_] at h ⊢
    obtain ⟨b, off, A', cap, rfl, g1, g2, h3, h4, h5, h6⟩ := h
    exact ⟨b, off, A', cap, rfl, Nat.le_trans h1 g1, Nat.lt_of_lt_of_le g2 h2, h3, h4, V.at_more h1 h2 v A' h5, Vs.at_more h1 h2 r _ h6⟩
end
theorem Vs.at_below {w w' : World} {lo hi B : Nat} {l : List V} {A : Option Addr} (h : Vs.at_ w lo hi l A) (hb : Below B w w') (hB : hi ≤ B) : Vs.at_ w' lo hi l A :=
  Vs.at_keep (fun _ _ hp => hb.cell (Nat.lt_of_lt_of_le hp hB)) l A h
/-- Kids are where they were, behind a new block. -/
theorem Vs.at_alloc {w : World} {lo hi : Nat} {l : List V} {A : Option Addr} (h : Vs.at_ w lo hi l A) (hh : hi ≤ w.heap.size) (o : Obj) : Vs.at_ (w.alloc o) lo hi l A :=
  Vs.at_keep (fun p _ hp => World.cell?_alloc_lt _ _ _ (by omega)) _ _ h
theorem Vs.at_drew {w : World} {lo hi : Nat} {l : List V} {A : Option Addr} (h : Vs.at_ w lo hi l A) : Vs.at_ w.drew lo hi l A :=
  Vs.at_keep (w := w) (w' := w.drew) (fun p _ _ => rfl) _ _ h
theorem Vs.at_set {w : World} {lo hi : Nat} {l : List V} {A : Option Addr} {p : Addr} {u : Value} (h : Vs.at_ w lo hi l A) (hp : p.block < lo ∨ hi ≤ p.block) : Vs.at_ (w.setCell p u) lo hi l A :=
  Vs.at_keep (fun q h1 h2 => World.cell?_setCell_other w p q u (fun e => by subst e; omega)) l A h
/-- Element i of a slice of values. -/
theorem Vs.at_get {w : World} {lo hi : Nat} : ∀ {l : List V} {A : Option Addr} (i : Nat) (hi' : i < l.length), Vs.at_ w lo hi l A →
    ∃ b off A' cap, A = some ⟨b, off, none⟩ ∧ lo ≤ b ∧ b < hi ∧ (l[i]).kids.length ≤ cap ∧ CellsAt w b (off + i * 5) l[i] A' cap ∧ Vs.at_ w lo hi (l[i]).kids A'
  | v :: r, A, 0, _, h => by
    simp only [Vs.at_] at h
    obtain ⟨b, off, A', cap, rfl, h1, h2, h3, h4, h5, h6⟩ := h
    exact ⟨b, off, A', cap, rfl, h1, h2, h3, by simpa using h4, V.at_kids.1 h5⟩
  | v :: r, A, i + 1, hi', h => by
    simp only [Vs.at_] at h
    obtain ⟨b, off, A', cap, rfl, h1, h2, h3, h4, h5, h6⟩ := h
    obtain ⟨b', off', A'', cap', e, g1, g2, g3, g4, g5⟩ := Vs.at_get i (by simpa using hi') h6
    injection e with e
    injection e with e1 e2
    subst e1 e2
    refine ⟨b, off, A'', cap', rfl, g1, g2, by simpa using g3, ?_, by simpa using g5⟩
    have : off + 5 + i * 5 = off + (i + 1) * 5 := by omega
    rw [this] at g4
    simpa using g4

mutual
/-- How many values there are in a value. -/
def V.nodes : V → Nat
  | .mk _ _ _ _ ks => Vs.nodes ks + 1
def Vs.nodes : List V → Nat
  | [] => 0
  | v :: r => v.nodes + Vs.nodes r
end
mutual
/-- What the laws' own measure takes off: letters, and one for each kid. -/
def V.weight : V → Nat
  | .mk _ _ _ s ks => s.size + Vs.weight ks
def Vs.weight : List V → Nat
  | [] => 0
  | v :: r => v.weight + 1 + Vs.weight r
end
/-- A number of 64 bits. -/
def inI (x : Int) : Prop := -9223372036854775808 ≤ x ∧ x ≤ 9223372036854775807
mutual
/-- Every length is one that Go can count, every number one of 64 bits. -/
def V.fits : V → Prop
  | .mk k n e s ks => s.size ≤ 9223372036854775807 ∧ ks.length ≤ 9223372036854775807 ∧ Vs.fits ks ∧ inI k ∧ inI n ∧ inI e
def Vs.fits : List V → Prop
  | [] => True
  | v :: r => v.fits ∧ Vs.fits r
end
theorem V.nodes_eq (v : V) : v.nodes = Vs.nodes v.kids + 1 := by cases v; simp [V.nodes, V.kids]
theorem V.weight_eq (v : V) : v.weight = v.s.size + Vs.weight v.kids := by cases v; simp [V.weight, V.kids, V.s]
theorem V.fits_eq (v : V) : v.fits ↔ v.s.size ≤ 9223372036854775807 ∧ v.kids.length ≤ 9223372036854775807 ∧ Vs.fits v.kids ∧ inI v.k ∧ inI v.n ∧ inI v.e := by cases v; simp [V.fits, V.kids, V.s, V.k, V.n, V.e]
theorem Vs.fits_get : ∀ {l : List V} (i : Nat) (h : i < l.length), Vs.fits l → (l[i]).fits
  | v :: r, 0, _, h => by simp only [Vs.fits] at h; exact h.1
  | v :: r, i + 1, hi, h => by simp only [Vs.fits] at h; exact Vs.fits_get i (by simpa using hi) h.2
theorem Vs.nodes_get : ∀ {l : List V} (i : Nat) (h : i < l.length), (l[i]).nodes ≤ Vs.nodes l
  | v :: r, 0, _ => by simp only [Vs.nodes, List.getElem_cons_zero]; omega
  | v :: r, i + 1, hi => by
    have := Vs.nodes_get (l := r) i (by simpa using hi)
    simp only [Vs.nodes, List.getElem_cons_succ]; omega
theorem V.nodes_pos (v : V) : 1 ≤ v.nodes := by rw [V.nodes_eq]; omega
theorem Vs.weight_snoc (l : List V) (v : V) : Vs.weight (l ++ [v]) = Vs.weight l + v.weight + 1 := by
  induction l with
  | nil => simp [Vs.weight]
  | cons a l ih => simp only [List.cons_append, Vs.weight, ih]; omega
theorem Vs.weight_take (l : List V) : ∀ i, Vs.weight (l.take i) + Vs.weight (l.drop i) = Vs.weight l := by
  induction l with
  | nil => intro i; simp [Vs.weight]
  | cons a l ih =>
    intro i
    cases i with
    | zero => simp [Vs.weight]
    | succ i => simp only [List.take_succ_cons, List.drop_succ_cons, Vs.weight]; have := ih i; omega
theorem Vs.weight_step (l : List V) (i : Nat) (h : i < l.length) : Vs.weight (l.take (i + 1)) = Vs.weight (l.take i) + (l[i]).weight + 1 := by
  rw [List.take_succ_eq_append_getElem h, Vs.weight_snoc]
theorem Vs.len_le (l : List V) : l.length ≤ Vs.weight l := by
  induction l with
  | nil => simp
  | cons a l ih => simp only [List.length_cons, Vs.weight]; omega
theorem Vs.weight_len (l : List V) (i : Nat) : Vs.weight (l.take i) + (l.length - i) ≤ Vs.weight l := by
  have h1 := Vs.weight_take l i
  have h2 := Vs.len_le (l.drop i)
  rw [List.length_drop] at h2
  omega
theorem Vs.len_nodes (l : List V) : l.length ≤ Vs.nodes l := by
  induction l with
  | nil => simp
  | cons a l ih => simp only [List.length_cons, Vs.nodes]; have := V.nodes_pos a; omega
/-- What is left of a measure, -1 if it doesn't suffice. -/
def szR (L : Int) (W : Nat) : Int := if (W : Int) ≤ L then L - W else -1

/-- A slice of values, out of its elements. -/
theorem Vs.at_of {w : World} {lo hi b : Nat} (h1 : lo ≤ b) (h2 : b < hi) : ∀ (l : List V) (off : Nat),
    (∀ i (h : i < l.length), ∃ A' cap, (l[i]).kids.length ≤ cap ∧ CellsAt w b (off + i * 5) l[i] A' cap ∧ Vs.at_ w lo hi (l[i]).kids A') → Vs.at_ w lo hi l (some ⟨b, off, none⟩)
  | [], _, _ => by simp only [Vs.at_]
  | v :: r, off, h => by
    simp only [Vs.at_]
    obtain ⟨A', cap, k1, k2, k3⟩ := h 0 (by simp)
    refine ⟨b, off, A', cap, rfl, h1, h2, by simpa using k1, by simpa using k2, V.at_kids.2 (by simpa using k3), Vs.at_of h1 h2 r (off + 5) fun i hi => ?_⟩
    obtain ⟨A', cap, k1, k2, k3⟩ := h (i + 1) (by simpa using hi)
    refine ⟨A', cap, by simpa using k1, ?_, by simpa using k3⟩
    rw [show off + 5 + i * 5 = off + (i + 1) * 5 by omega]
    simpa using k2
/-- A value stored into five cells. -/
def put5 (w : World) (G o : Nat) (v : V) (A : Option Addr) (c : Nat) : World :=
  ((((w.setCell ⟨G, o, none⟩ (.int .i64 v.k)).setCell ⟨G, o + 1, none⟩ (.int .i64 v.n)).setCell ⟨G, o + 2, none⟩ (.int .i64 v.e)).setCell ⟨G, o + 3, none⟩ (.string v.s)).setCell ⟨G, o + 4, none⟩ (.slice A v.kids.length c)
theorem addr_ne {G q : Nat} {p : Addr} (h : p.block ≠ G ∨ p.off ≠ q) : (⟨G, q, none⟩ : Addr) ≠ p := by
  rintro rfl
  rcases h with h | h <;> exact h rfl
theorem put5_other {w : World} {G o : Nat} {v : V} {A : Option Addr} {c : Nat} {p : Addr} (h : p.block ≠ G ∨ p.off < o ∨ o + 5 ≤ p.off) : (put5 w G o v A c).cell? p = w.cell? p := by
  unfold put5
  rw [World.cell?_setCell_other _ _ _ _ (addr_ne (G := G) (q := o + 4) (by omega)), World.cell?_setCell_other _ _ _ _ (addr_ne (G := G) (q := o + 3) (by omega)), World.cell?_setCell_other _ _ _ _ (addr_ne (G := G) (q := o + 2) (by omega)), World.cell?_setCell_other _ _ _ _ (addr_ne (G := G) (q := o + 1) (by omega)), World.cell?_setCell_other _ _ _ _ (addr_ne (G := G) (q := o) (by omega))]
theorem put5_at {w : World} {G o : Nat} {v : V} {A : Option Addr} {c : Nat} {u0 u1 u2 u3 u4 : Value} (h0 : w.cell? ⟨G, o, none⟩ = some u0) (h1 : w.cell? ⟨G, o + 1, none⟩ = some u1) (h2 : w.cell? ⟨G, o + 2, none⟩ = some u2)
    (h3 : w.cell? ⟨G, o + 3, none⟩ = some u3) (h4 : w.cell? ⟨G, o + 4, none⟩ = some u4) : CellsAt (put5 w G o v A c) G o v A c := by
  have ne : ∀ {a b : Nat}, a ≠ b → (⟨G, a, none⟩ : Addr) ≠ ⟨G, b, none⟩ := fun h e => h (by injection e)
  unfold put5
  refine ⟨?_, ?_, ?_, ?_, ?_⟩
  · rw [World.cell?_setCell_other _ _ _ _ (ne (by omega)), World.cell?_setCell_other _ _ _ _ (ne (by omega)), World.cell?_setCell_other _ _ _ _ (ne (by omega)), World.cell?_setCell_other _ _ _ _ (ne (by omega))]
    exact World.cell?_setCell_same _ _ _ h0
  · rw [World.cell?_setCell_other _ _ _ _ (ne (by omega)), World.cell?_setCell_other _ _ _ _ (ne (by omega)), World.cell?_setCell_other _ _ _ _ (ne (by omega))]
    exact World.cell?_setCell_same _ _ _ ((World.cell?_setCell_other _ _ _ _ (ne (by omega))).trans h1)
  · rw [World.cell?_setCell_other _ _ _ _ (ne (by omega)), World.cell?_setCell_other _ _ _ _ (ne (by omega))]
    exact World.cell?_setCell_same _ _ _ ((World.cell?_setCell_other _ _ _ _ (ne (by omega))).trans ((World.cell?_setCell_other _ _ _ _ (ne (by omega))).trans h2))
  · rw [World.cell?_setCell_other _ _ _ _ (ne (by omega))]
    exact World.cell?_setCell_same _ _ _ ((World.cell?_setCell_other _ _ _ _ (ne (by omega))).trans ((World.cell?_setCell_other _ _ _ _ (ne (by omega))).trans ((World.cell?_setCell_other _ _ _ _ (ne (by omega))).trans h3)))
  · exact World.cell?_setCell_same _ _ _ ((World.cell?_setCell_other _ _ _ _ (ne (by omega))).trans ((World.cell?_setCell_other _ _ _ _ (ne (by omega))).trans ((World.cell?_setCell_other _ _ _ _ (ne (by omega))).trans ((World.cell?_setCell_other _ _ _ _ (ne (by omega))).trans h4))))
theorem put5_size (w : World) (G o : Nat) (v : V) (A : Option Addr) (c : Nat) : (put5 w G o v A c).heap.size = w.heap.size := by simp [put5]
theorem put5_own {w : World} {G o base n cap : Nat} {e : TypeId} {v : V} {A : Option Addr} {c : Nat} {xs : List Value} (h : w.ownsRow base e 5 (.slice (some ⟨G, 0, none⟩) n cap) n xs) : ∃ xs', (put5 w G o v A c).ownsRow base e 5 (.slice (some ⟨G, 0, none⟩) n cap) n xs' :=
  ⟨_, ((((((h.stored o _).1.stored (o + 1) _).1.stored (o + 2) _).1.stored (o + 3) _).1.stored (o + 4) _).1)⟩
theorem put5_below {a w : World} {B G o : Nat} {v : V} {A : Option Addr} {c : Nat} (h : Below B a w) (hG : B ≤ G) : Below B a (put5 w G o v A c) :=
  ((((h.setCell (p := ⟨G, o, none⟩) hG _).setCell (p := ⟨G, o + 1, none⟩) hG _).setCell (p := ⟨G, o + 2, none⟩) hG _).setCell (p := ⟨G, o + 3, none⟩) hG _).setCell (p := ⟨G, o + 4, none⟩) hG _
theorem CellsAt.keep {w w' : World} {b off : Nat} {v : V} {A : Option Addr} {c : Nat} (h : CellsAt w b off v A c) (hk : ∀ q, q < 5 → w'.cell? ⟨b, off + q, none⟩ = w.cell? ⟨b, off + q, none⟩) : CellsAt w' b off v A c :=
  ⟨(hk 0 (by omega)).trans h.1, (hk 1 (by omega)).trans h.2.1, (hk 2 (by omega)).trans h.2.2.1, (hk 3 (by omega)).trans h.2.2.2.1, (hk 4 (by omega)).trans h.2.2.2.2⟩
theorem Blk.five {w : World} {g : Nat} {t : TypeId} {v0 v1 v2 v3 v4 : Value} (h : Blk w g t #[v0, v1, v2, v3, v4]) :
    w.cell? ⟨g, 0, none⟩ = some v0 ∧ w.cell? ⟨g, 1, none⟩ = some v1 ∧ w.cell? ⟨g, 2, none⟩ = some v2 ∧ w.cell? ⟨g, 3, none⟩ = some v3 ∧ w.cell? ⟨g, 4, none⟩ = some v4 :=
  ⟨h.cell 0, h.cell 1, h.cell 2, h.cell 3, h.cell 4⟩
theorem Blk.drew {w : World} {g : Nat} {t : TypeId} {cs : Array Value} (h : Blk w g t cs) : Blk w.drew g t cs := h
mutual
theorem V.nodes_weight : ∀ v : V, v.nodes ≤ v.weight + 1
  | .mk _ _ _ _ ks => by simp only [V.nodes, V.weight]; have := Vs.nodes_weight ks; omega
theorem Vs.nodes_weight : ∀ l : List V, Vs.nodes l ≤ Vs.weight l
  | [] => by simp [Vs.nodes]
  | v :: r => by simp only [Vs.nodes, Vs.weight]; have h1 := V.nodes_weight v; have h2 := Vs.nodes_weight r; omega
end
/-- What holds of every value whose kids it holds of. -/
theorem V.all {P : V → Prop} (h : ∀ v, (∀ i (hi : i < v.kids.length), P v.kids[i]) → P v) : ∀ v, P v := by
  have key : ∀ N (v : V), v.nodes ≤ N → P v := by
    intro N
    induction N with
    | zero => intro v hv; have := V.nodes_pos v; omega
    | succ N ih =>
      intro v hv
      refine h v fun i hi => ih _ ?_
      have h1 := Vs.nodes_get i hi
      rw [V.nodes_eq] at hv
      omega
  exact fun v => key _ v (Nat.le_refl _)
end Go.Proofs.YtcjamnfboifjeaaDoor

/-
  A tree whose rows lie each in a block of its own; the tree marked.
-/
namespace Go.Proofs.YtcjamnfboifjeaaDoor
open Go.RowKit
set_option linter.unusedVariables false
set_option linter.unusedSimpArgs false

/-- A block whose cells may be stored into. -/
def soft (w : World) (b : Nat) : Prop := ∀ q, w.frozen? ⟨b, q, none⟩ = false
theorem soft_same {w w' : World} {b : Nat} (h : soft w b) (hb : w'.heap[b]? = w.heap[b]?) : soft w' b := fun q => by
  have := h q
  unfold World.frozen? at this ⊢
  rw [hb]
  exact this
theorem soft_own {w : World} {base g c n size : Nat} {e : TypeId} {xs : List Value} (h : w.ownsRow base e size (.slice (some ⟨g, 0, none⟩) n c) n xs) : soft w g := fun q => h.frozenAt q

mutual
/-- The kids' rows of a value, each in a block of its own; F: the blocks. -/
def V.lies (w : World) : V → Option Addr → List Nat → Prop
  | .mk _ _ _ _ ks, A, F => (ks = [] ∧ F = []) ∨ ∃ b G, A = some ⟨b, 0, none⟩ ∧ F = b :: G ∧ b < w.heap.size ∧ soft w b ∧ Vs.cells w b 0 ks G
def Vs.cells (w : World) (b : Nat) : Nat → List V → List Nat → Prop
  | _, [], G => G = []
  | off, v :: r, G => ∃ A' cap G1 G2, G = G1 ++ G2 ∧ v.kids.length ≤ cap ∧ CellsAt w b off v A' cap ∧ V.lies w v A' G1 ∧ Vs.cells w b (off + 5) r G2
end
def Vs.lies (w : World) (l : List V) (A : Option Addr) (F : List Nat) : Prop := (l = [] ∧ F = []) ∨ ∃ b G, A = some ⟨b, 0, none⟩ ∧ F = b :: G ∧ b < w.heap.size ∧ soft w b ∧ Vs.cells w b 0 l G
theorem V.lies_kids {w : World} {v : V} {A : Option Addr} {F : List Nat} : V.lies w v A F ↔ Vs.lies w v.kids A F := by
  cases v; simp only [V.lies, Vs.lies, V.kids]

/-- What says nothing of other blocks. -/
def SameIn (F : List Nat) (w w' : World) : Prop := w.heap.size ≤ w'.heap.size ∧ ∀ b ∈ F, w'.heap[b]? = w.heap[b]?
theorem cells_keep {w w' : World} {b off : Nat} {v : V} {A : Option Addr} {c : Nat} (h : CellsAt w b off v A c) (hb : w'.heap[b]? = w.heap[b]?) : CellsAt w' b off v A c :=
  h.keep fun q _ => World.cell?_of_block hb
mutual
theorem V.lies_same {w w' : World} : ∀ (v : V) (A : Option Addr) (F : List Nat), V.lies w v A F → SameIn F w w' → V.lies w' v A F
  | .mk _ _ _ _ ks, A, F, h, hs => by
    simp only [V.lies] at h ⊢
    rcases h with h | ⟨b, G, h1, rfl, h3, h4, h5⟩
    · exact .inl h
    · have hb := hs.2 b (by simp)
      exact .inr ⟨b, G, h1, rfl, Nat.lt_of_lt_of_le h3 hs.1, soft_same h4 hb, Vs.cells_same b 0 ks G h5 hb ⟨hs.1, fun c hc => hs.2 c (by simp [hc])⟩⟩
theorem Vs.cells_same {w w' : World} (b : Nat) : ∀ (off : Nat) (l : List V) (G : List Nat), Vs.cells w b off l G → w'.heap[b]? = w.heap[b]? → SameIn G w w' → Vs.cells w' b off l G
  | _, [], G, h, _, _ => by simp only [Vs.cells] at h ⊢; exact h
  | off, v :: r, G, h, hb, hs => by
    simp only [Vs.cells] at h ⊢
    obtain ⟨A', cap, G1, G2, rfl, h2, h3, h4, h5⟩ := h
    exact ⟨A', cap, G1, G2, rfl, h2, cells_keep h3 hb, V.lies_same v A' G1 h4 ⟨hs.1, fun c hc => hs.2 c (by simp [hc])⟩, Vs.cells_same b (off + 5) r G2 h5 hb ⟨hs.1, fun c hc => hs.2 c (by simp [hc])⟩⟩
end
theorem Vs.lies_same {w w' : World} {l : List V} {A : Option Addr} {F : List Nat} (h : Vs.lies w l A F) (hs : SameIn F w w') : Vs.lies w' l A F := by
  have h1 : V.lies w (.mk 0 0 0 ⟨#[]⟩ l) A F := V.lies_kids.2 h
  exact V.lies_kids.1 (V.lies_same _ A F h1 hs)

/-- One value of a row, and what it takes to put another into its place. -/
theorem Vs.cells_at {w : World} {b : Nat} : ∀ (L : List V) (off : Nat) (G : List Nat) (j : Nat) (h : j < L.length), Vs.cells w b off L G →
    ∃ A' cap G1 Gj G2, G = G1 ++ (Gj ++ G2) ∧ (L[j]).kids.length ≤ cap ∧ CellsAt w b (off + j * 5) L[j] A' cap ∧ V.lies w L[j] A' Gj ∧
      ∀ (w' : World) (v' : V), v'.kids.length = (L[j]).kids.length → CellsAt w' b (off + j * 5) v' A' cap → V.lies w' v' A' Gj →
        (∀ q, (q < off + j * 5 ∨ off + j * 5 + 5 ≤ q) → w'.cell? ⟨b, q, none⟩ = w.cell? ⟨b, q, none⟩) → SameIn (G1 ++ G2) w w' → Vs.cells w' b off (L.set j v') G
  | v :: r, off, G, 0, _, h => by
    simp only [Vs.cells] at h
    obtain ⟨A', cap, G1, G2, rfl, h2, h3, h4, h5⟩ := h
    refine ⟨A', cap, [], G1, G2, by simp, by simpa using h2, by simpa using h3, h4, fun w' v' k1 k2 k3 k4 k5 => ?_⟩
    simp only [List.set_cons_zero, Vs.cells]
    refine ⟨A', cap, G1, G2, rfl, by rw [k1]; exact h2, by simpa using k2, k3, ?_⟩
    have key : ∀ (off' : Nat) (l : List V) (G : List Nat), off + 5 ≤ off' → (∀ c ∈ G, c ∈ G2) → Vs.cells w b off' l G → Vs.cells w' b off' l G := by
      intro off' l
      induction l generalizing off' with
      | nil => intro G _ _ h; simp only [Vs.cells] at h ⊢; exact h
      | cons a l ih =>
        intro G ho hG h
        simp only [Vs.cells] at h ⊢
        obtain ⟨A', cap, H1, H2, rfl, m2, m3, m4, m5⟩ := h
        exact ⟨A', cap, H1, H2, rfl, m2, m3.keep fun q hq => k4 _ (.inr (by omega)), V.lies_same _ _ _ m4 ⟨k5.1, fun c hc => k5.2 c (by simpa using hG c (by simp [hc]))⟩, ih (off' + 5) H2 (by omega) (fun c hc => hG c (by simp [hc])) m5⟩
    exact key (off + 5) r G2 (Nat.le_refl _) (fun c hc => hc) h5
  | v :: r, off, G, j + 1, hj, h => by
    simp only [Vs.cells] at h
    obtain ⟨A', cap, G1, G2, rfl, h2, h3, h4, h5⟩ := h
    obtain ⟨B, cap', H1, Hj, H2, rfl, m2, m3, m4, m5⟩ := Vs.cells_at r (off + 5) G2 j (by simpa using hj) h5
    have he : off + 5 + j * 5 = off + (j + 1) * 5 := by omega
    rw [he] at m3 m5
    refine ⟨B, cap', G1 ++ H1, Hj, H2, by simp, by simpa using m2, by simpa using m3, by simpa using m4, fun w' v' k1 k2 k3 k4 k5 => ?_⟩
    simp only [List.set_cons_succ, Vs.cells]
    refine ⟨A', cap, G1, H1 ++ (Hj ++ H2), by simp, h2, h3.keep fun q hq => k4 _ (.inl (by omega)), V.lies_same _ _ _ h4 ⟨k5.1, fun c hc => k5.2 c (by simp [hc])⟩, m5 w' v' (by simpa using k1) k2 k3 k4 ⟨k5.1, fun c hc => k5.2 c (by simp at hc ⊢; rcases hc with h | h <;> simp [h])⟩⟩
mutual
theorem V.lies_lt {w : World} : ∀ (v : V) (A : Option Addr) (F : List Nat), V.lies w v A F → ∀ c ∈ F, c < w.heap.size
  | .mk _ _ _ _ ks, A, F, h, c, hc => by
    simp only [V.lies] at h
    rcases h with ⟨_, rfl⟩ | ⟨b, G, h1, rfl, h3, h4, h5⟩
    · cases hc
    · rcases List.mem_cons.1 hc with rfl | hc
      · exact h3
      · exact Vs.cells_lt b 0 ks G h5 c hc
theorem Vs.cells_lt {w : World} (b : Nat) : ∀ (off : Nat) (l : List V) (G : List Nat), Vs.cells w b off l G → ∀ c ∈ G, c < w.heap.size
  | _, [], G, h, c, hc => by simp only [Vs.cells] at h; subst h; cases hc
  | off, v :: r, G, h, c, hc => by
    simp only [Vs.cells] at h
    obtain ⟨A', cap, G1, G2, rfl, h2, h3, h4, h5⟩ := h
    rcases List.mem_append.1 hc with hc | hc
    · exact V.lies_lt v A' G1 h4 c hc
    · exact Vs.cells_lt b (off + 5) r G2 h5 c hc
end
theorem lies_below {w w' : World} {l : List V} {A : Option Addr} {F : List Nat} (h : Vs.lies w l A F) {B : Nat} (hb : Below B w w') (hB : ∀ c ∈ F, c < B) : Vs.lies w' l A F :=
  Vs.lies_same h ⟨hb.size, fun c hc => hb.block c (hB c hc)⟩
theorem lies_lt {w : World} {l : List V} {A : Option Addr} {F : List Nat} (h : Vs.lies w l A F) : ∀ c ∈ F, c < w.heap.size := by
  have h1 : V.lies w (.mk 0 0 0 ⟨#[]⟩ l) A F := V.lies_kids.2 h
  exact V.lies_lt _ A F h1
mutual
theorem V.lies_at {w : World} {lo : Nat} : ∀ (v : V) (A : Option Addr) (F : List Nat), V.lies w v A F → (∀ c ∈ F, lo ≤ c) → V.at_ w lo w.heap.size v A
  | .mk _ _ _ _ ks, A, F, h, hF => by
    simp only [V.lies] at h
    simp only [V.at_]
    rcases h with ⟨rfl, rfl⟩ | ⟨b, G, rfl, rfl, h3, h4, h5⟩
    · simp only [Vs.at_]
    · exact Vs.cells_at_ b 0 ks G h5 (hF b (by simp)) h3 (fun c hc => hF c (by simp [hc]))
theorem Vs.cells_at_ {w : World} {lo : Nat} (b : Nat) : ∀ (off : Nat) (l : List V) (G : List Nat), Vs.cells w b off l G → lo ≤ b → b < w.heap.size → (∀ c ∈ G, lo ≤ c) → Vs.at_ w lo w.heap.size l (some ⟨b, off, none⟩)
  | _, [], G, h, _, _, _ => by simp only [Vs.at_]
  | off, v :: r, G, h, h1, h2, hG => by
    simp only [Vs.cells] at h
    simp only [Vs.at_]
    obtain ⟨A', cap, G1, G2, rfl, k2, k3, k4, k5⟩ := h
    exact ⟨b, off, A', cap, rfl, h1, h2, k2, k3, V.lies_at v A' G1 k4 (fun c hc => hG c (by simp [hc])), Vs.cells_at_ b (off + 5) r G2 k5 h1 h2 (fun c hc => hG c (by simp [hc]))⟩
end
theorem Vs.lies_at {w : World} {lo : Nat} {l : List V} {A : Option Addr} {F : List Nat} (h : Vs.lies w l A F) (hF : ∀ c ∈ F, lo ≤ c) : Vs.at_ w lo w.heap.size l A := by
  have h1 : V.lies w (.mk 0 0 0 ⟨#[]⟩ l) A F := V.lies_kids.2 h
  have h2 := V.lies_at _ A F h1 hF
  simpa only [V.at_] using h2
/-- One value more at the end of a row. -/
theorem Vs.cells_snoc {w : World} {b : Nat} {v : V} {A : Option Addr} {cap : Nat} {Gj : List Nat} (hc : v.kids.length ≤ cap) (hl : V.lies w v A Gj) : ∀ (l : List V) (off : Nat) (G : List Nat), Vs.cells w b off l G → CellsAt w b (off + l.length * 5) v A cap →
    Vs.cells w b off (l ++ [v]) (G ++ Gj)
  | [], off, G, h, h1 => by
    simp only [Vs.cells] at h
    subst h
    simp only [List.nil_append, Vs.cells]
    exact ⟨A, cap, Gj, [], by simp, hc, by simpa using h1, hl, rfl⟩
  | a :: l, off, G, h, h1 => by
    simp only [Vs.cells] at h
    obtain ⟨A', cap', G1, G2, rfl, k2, k3, k4, k5⟩ := h
    simp only [List.cons_append, Vs.cells]
    refine ⟨A', cap', G1, G2 ++ Gj, by simp, k2, k3, k4, Vs.cells_snoc hc hl l (off + 5) G2 k5 ?_⟩
    rw [show off + 5 + l.length * 5 = off + (a :: l).length * 5 by simp; omega]
    exact h1
/-- A row of which the cells are as they were. -/
theorem Vs.cells_front {w w' : World} {b : Nat} : ∀ (l : List V) (off : Nat) (G : List Nat), Vs.cells w b off l G → (∀ q, q < off + l.length * 5 → w'.cell? ⟨b, q, none⟩ = w.cell? ⟨b, q, none⟩) → SameIn G w w' → Vs.cells w' b off l G
  | [], off, G, h, _, _ => by simp only [Vs.cells] at h ⊢; exact h
  | a :: l, off, G, h, h1, h2 => by
    simp only [Vs.cells] at h ⊢
    obtain ⟨A', cap', G1, G2, rfl, k2, k3, k4, k5⟩ := h
    exact ⟨A', cap', G1, G2, rfl, k2, k3.keep fun q hq => h1 _ (by simp; omega), V.lies_same _ _ _ k4 ⟨h2.1, fun c hc => h2.2 c (by simp [hc])⟩,
      Vs.cells_front l (off + 5) G2 k5 (fun q hq => h1 q (by simp; omega)) ⟨h2.1, fun c hc => h2.2 c (by simp [hc])⟩⟩
end Go.Proofs.YtcjamnfboifjeaaDoor

/-
  What a value is made of.
-/
namespace Go.Proofs.YtcjamnfboifjeaaDoor
open Go.RowKit
set_option maxRecDepth 100000

theorem infoV : (Tryd.prog.info? 28).map (fun i => (i.zero, i.size, i.bytes)) = some (some (.agg #[.int .i64 0, .int .i64 0, .int .i64 0, .string ⟨#[]⟩, .slice none 0 0]), 5, 64) := by kernel_rfl
end Go.Proofs.YtcjamnfboifjeaaDoor

/-
  A row of values that grows by appends: its cells, and where the values' own rows lie.
-/
namespace Go.Proofs.YtcjamnfboifjeaaDoor
open Go.RowKit
set_option linter.unusedVariables false
set_option linter.unusedSimpArgs false

/-- A value, where its kids lie, and the room there. -/
abbrev Ent := V × Option Addr × Nat
def Ent.cells (x : Ent) : List Value := [.int .i64 x.1.k, .int .i64 x.1.n, .int .i64 x.1.e, .string x.1.s, .slice x.2.1 x.1.kids.length x.2.2]
def flat (es : List Ent) : List Value := es.flatMap Ent.cells
theorem flat_len (es : List Ent) : (flat es).length = es.length * 5 := by
  induction es with
  | nil => rfl
  | cons a l ih => simp only [flat, List.flatMap_cons, List.length_append, List.length_cons] at *; rw [ih]; simp [Ent.cells]; omega
theorem flat_append (a b : List Ent) : flat (a ++ b) = flat a ++ flat b := by simp [flat]
theorem flat_one (x : Ent) : flat [x] = x.cells := by simp [flat]
theorem flat_ones (es : List Ent) : ∀ u ∈ flat es, u.oneCell' = true := by
  intro u hu
  obtain ⟨x, _, hx⟩ := List.mem_flatMap.1 hu
  simp [Ent.cells] at hx
  rcases hx with rfl | rfl | rfl | rfl | rfl <;> rfl
theorem flat_at (es : List Ent) : ∀ (j q : Nat) (h : j < es.length), q < 5 → (flat es)[j * 5 + q]? = (es[j].cells)[q]? := by
  induction es with
  | nil => intro j q h; simp at h
  | cons a l ih =>
    intro j q h hq
    have e : flat (a :: l) = a.cells ++ flat l := rfl
    have hl : a.cells.length = 5 := rfl
    rw [e]
    cases j with
    | zero => rw [List.getElem?_append_left (by omega)]; simp
    | succ j =>
      rw [List.getElem?_append_right (by omega), show (j + 1) * 5 + q - a.cells.length = j * 5 + q by omega, ih j q (by simpa using h) hq]
      rfl

/-- Each value's kids' rows, in blocks of their own. -/
def kidsLie (w : World) : List Ent → List Nat → Prop
  | [], G => G = []
  | x :: r, G => ∃ G1 G2, G = G1 ++ G2 ∧ x.1.kids.length ≤ x.2.2 ∧ V.lies w x.1 x.2.1 G1 ∧ kidsLie w r G2
theorem kidsLie_lt {w : World} : ∀ (es : List Ent) (G : List Nat), kidsLie w es G → ∀ c ∈ G, c < w.heap.size
  | [], G, h, c, hc => by simp only [kidsLie] at h; subst h; cases hc
  | x :: r, G, h, c, hc => by
    simp only [kidsLie] at h
    obtain ⟨G1, G2, rfl, _, h3, h4⟩ := h
    rcases List.mem_append.1 hc with hc | hc
    · exact V.lies_lt _ _ _ h3 c hc
    · exact kidsLie_lt r G2 h4 c hc
theorem kidsLie_same {w w' : World} : ∀ (es : List Ent) (G : List Nat), kidsLie w es G → SameIn G w w' → kidsLie w' es G
  | [], G, h, _ => by simp only [kidsLie] at h ⊢; exact h
  | x :: r, G, h, hs => by
    simp only [kidsLie] at h ⊢
    obtain ⟨G1, G2, rfl, h2, h3, h4⟩ := h
    exact ⟨G1, G2, rfl, h2, V.lies_same _ _ _ h3 ⟨hs.1, fun c hc => hs.2 c (by simp [hc])⟩, kidsLie_same r G2 h4 ⟨hs.1, fun c hc => hs.2 c (by simp [hc])⟩⟩
theorem kidsLie_append {w : World} : ∀ (a b : List Ent) (G H : List Nat), kidsLie w a G → kidsLie w b H → kidsLie w (a ++ b) (G ++ H)
  | [], b, G, H, h, h' => by simp only [kidsLie] at h; subst h; simpa using h'
  | x :: r, b, G, H, h, h' => by
    simp only [kidsLie] at h
    simp only [List.cons_append, kidsLie]
    obtain ⟨G1, G2, rfl, h2, h3, h4⟩ := h
    exact ⟨G1, G2 ++ H, by simp, h2, h3, kidsLie_append r b G2 H h4 h'⟩
theorem kidsLie_one {w : World} {v : V} {A : Option Addr} {c : Nat} {F : List Nat} (hc : v.kids.length ≤ c) (h : Vs.lies w v.kids A F) : kidsLie w [(v, A, c)] F := by
  simp only [kidsLie]
  exact ⟨F, [], by simp, hc, V.lies_kids.2 h, rfl⟩
theorem kidsLie_cells {w : World} {g : Nat} : ∀ (es : List Ent) (off : Nat) (G : List Nat), (∀ q, q < es.length * 5 → w.cell? ⟨g, off + q, none⟩ = (flat es)[q]?) → kidsLie w es G → Vs.cells w g off (es.map (·.1)) G
  | [], off, G, _, h => by simp only [kidsLie] at h; simpa only [List.map_nil, Vs.cells] using h
  | x :: r, off, G, hc, h => by
    simp only [kidsLie] at h
    simp only [List.map_cons, Vs.cells]
    obtain ⟨G1, G2, rfl, h2, h3, h4⟩ := h
    have e : ∀ q, q < 5 → w.cell? ⟨g, off + q, none⟩ = (x.cells)[q]? := fun q hq => by
      rw [hc q (by simp; omega)]
      have := flat_at (x :: r) 0 q (by simp) hq
      simpa using this
    refine ⟨x.2.1, x.2.2, G1, G2, rfl, h2, ⟨e 0 (by omega), e 1 (by omega), e 2 (by omega), e 3 (by omega), e 4 (by omega)⟩, h3, kidsLie_cells r (off + 5) G2 (fun q hq => ?_) h4⟩
    rw [show off + 5 + q = off + (q + 5) by omega, hc (q + 5) (by simp; omega)]
    have e2 : flat (x :: r) = x.cells ++ flat r := rfl
    rw [e2, List.getElem?_append_right (by show 5 ≤ q + 5; omega)]
    rfl

/-- A row of values of the call's own. -/
structure RowOf (w : World) (base : Nat) (o : Value) (es : List Ent) (G : List Nat) : Prop where
  own : w.ownsRow base 28 5 o es.length (flat es)
  kids : kidsLie w es G
  nodup : G.Nodup
  low : ∀ c ∈ G, base ≤ c
  apart : ∀ g, o.ownBlock = some g → g ∉ G
theorem RowOf.lt {w : World} {base : Nat} {o : Value} {es : List Ent} {G : List Nat} (h : RowOf w base o es G) : ∀ c ∈ G, c < w.heap.size := kidsLie_lt es G h.kids
theorem RowOf.below {w w' : World} {base : Nat} {o : Value} {es : List Ent} {G : List Nat} (h : RowOf w base o es G) {B : Nat} (hB : w.heap.size ≤ B) (hb : Below B w w') : RowOf w' base o es G :=
  ⟨own_below' h.own hB hb, kidsLie_same es G h.kids ⟨hb.size, fun c hc => hb.block c (Nat.lt_of_lt_of_le (h.lt c hc) hB)⟩, h.nodup, h.low, h.apart⟩
theorem RowOf.alloc {w : World} {base : Nat} {o : Value} {es : List Ent} {G : List Nat} (h : RowOf w base o es G) (ob : Obj) : RowOf (w.alloc ob) base o es G :=
  h.below (Nat.le_refl _) ((Below.refl _ w).alloc (Nat.le_refl _) ob)
/-- The row as kids of a value. -/
theorem RowOf.lies {w : World} {base : Nat} {o : Value} {es : List Ent} {G : List Nat} (h : RowOf w base o es G) : ∃ A c F, o = .slice A es.length c ∧ es.length ≤ c ∧ Vs.lies w (es.map (·.1)) A F ∧ F.Nodup ∧ (∀ x ∈ F, base ≤ x) := by
  have hown := h.own
  rcases hown.2 with ⟨rfl, h0⟩ | ⟨g, c, cur, rfl, h1, h2, h3, h4⟩
  · have he : es = [] := List.eq_nil_of_length_eq_zero h0
    subst he
    exact ⟨none, 0, [], rfl, Nat.le_refl _, .inl ⟨rfl, rfl⟩, List.nodup_nil, fun x hx => by cases hx⟩
  · refine ⟨some ⟨g, 0, none⟩, c, g :: G, rfl, by omega, .inr ⟨g, G, rfl, rfl, (hown.lt g rfl).2, soft_own hown, ?_⟩, List.nodup_cons.2 ⟨h.apart g rfl, h.nodup⟩, fun x hx => ?_⟩
    · refine kidsLie_cells es 0 G (fun q hq => ?_) h.kids
      rw [Nat.zero_add]
      exact hown.cellAt q (by omega)
    · rcases List.mem_cons.1 hx with rfl | hx
      · exact h1
      · exact h.low x hx
/-- A value appended. -/
theorem RowOf.push {w w1 w' : World} {base : Nat} {o v' : Value} {es : List Ent} {G : List Nat} (h : RowOf w base o es G) {v : V} {A : Option Addr} {c : Nat} {F : List Nat} (hc : v.kids.length ≤ c) (hl : Vs.lies w v.kids A F)
    (hnd : F.Nodup) (hF : ∀ x ∈ F, base ≤ x) (hFG : ∀ x ∈ F, x ∉ G) (hFo : ∀ g, o.ownBlock = some g → g ∉ F) (h1 : Below w.heap.size w w1)
    (hown' : w'.ownsRow base 28 5 v' (es.length + 1) (flat es ++ Ent.cells (v, A, c))) (hg : w1.grownBy w' o.ownBlock) (hv : v'.ownBlock = o.ownBlock ∨ v'.ownBlock = some w1.heap.size) :
    RowOf w' base v' (es ++ [(v, A, c)]) (G ++ F) := by
  have hlt := h.lt
  have hFl : ∀ x ∈ F, x < w.heap.size := lies_lt hl
  have same : ∀ x, x < w.heap.size → (∀ g, o.ownBlock = some g → x ≠ g) → w'.heap[x]? = w.heap[x]? := fun x hx hn => by
    rw [hg.block x (Nat.lt_of_lt_of_le hx h1.size) (fun e => hn x e.symm rfl), h1.block x hx]
  have hsz : w.heap.size ≤ w'.heap.size := Nat.le_trans h1.size hg.size
  refine ⟨?_, kidsLie_append _ _ _ _ (kidsLie_same es G h.kids ⟨hsz, fun x hx => same x (hlt x hx) (fun g hg' e => h.apart g hg' (e ▸ hx))⟩) (kidsLie_one hc (Vs.lies_same hl ⟨hsz, fun x hx => same x (hFl x hx) (fun g hg' e => hFo g hg' (e ▸ hx))⟩)), ?_, ?_, ?_⟩
  · rw [List.length_append, flat_append, flat_one]; exact hown'
  · exact List.nodup_append.2 ⟨h.nodup, hnd, fun a ha b hb e => hFG b hb (e ▸ ha)⟩
  · intro x hx
    rcases List.mem_append.1 hx with hx | hx
    · exact h.low x hx
    · exact hF x hx
  · intro g hg' hx
    have hgl : g < w.heap.size := by
      rcases List.mem_append.1 hx with hx | hx
      · exact hlt g hx
      · exact hFl g hx
    rcases hv with e | e
    · rw [e] at hg'
      rcases List.mem_append.1 hx with hx | hx
      · exact h.apart g hg' hx
      · exact hFo g hg' hx
    · rw [e] at hg'
      injection hg' with hg'
      have := h1.size
      omega
theorem RowOf.none {w : World} {base : Nat} {o : Value} (h : w.ownsRow base 28 5 o 0 []) : RowOf w base o [] [] :=
  ⟨h, rfl, List.nodup_nil, (fun _ h => by cases h), (fun _ _ h => by cases h)⟩
end Go.Proofs.YtcjamnfboifjeaaDoor

/-
  A slice of one-cell elements, wherever it lies; slices of numbers, texts and bytes that came in.
-/
namespace Go.Proofs.YtcjamnfboifjeaaDoor
open Go.RowKit Go.ChangeShapes Go.WideShapes
set_option linter.unusedVariables false
set_option maxRecDepth 100000

/-- The cells of a slice. -/
def At1 (w : World) (hi : Nat) (A : Option Addr) (xs : List Value) : Prop := xs = [] ∨ ∃ b off, A = some ⟨b, off, none⟩ ∧ b < hi ∧ ∀ j (h : j < xs.length), w.cell? ⟨b, off + j, none⟩ = some xs[j]
theorem At1.below {w w' : World} {hi B : Nat} {A : Option Addr} {xs : List Value} (h : At1 w hi A xs) (hb : Below B w w') (hB : hi ≤ B) : At1 w' hi A xs := by
  rcases h with h | ⟨b, off, h1, h2, h3⟩
  · exact .inl h
  · exact .inr ⟨b, off, h1, h2, fun j hj => (hb.cell (p := ⟨b, off + j, none⟩) (Nat.lt_of_lt_of_le h2 hB)).trans (h3 j hj)⟩
theorem At1.get {w : World} {hi : Nat} {A : Option Addr} {xs : List Value} (h : At1 w hi A xs) {j : Nat} (hj : j < xs.length) : ∃ b off, A = some ⟨b, off, none⟩ ∧ b < hi ∧ w.cell? ⟨b, off + j, none⟩ = some xs[j] := by
  rcases h with rfl | ⟨b, off, h1, h2, h3⟩
  · cases hj
  · exact ⟨b, off, h1, h2, h3 j hj⟩
theorem At1.own {w : World} {base c : Nat} {A : Option Addr} {e : TypeId} {n : Nat} {xs : List Value} (h : w.ownsRow base e 1 (.slice A n c) n xs) : At1 w w.heap.size A xs := by
  have hl := h.1
  rcases h.2 with ⟨h1, h0⟩ | ⟨g, c', cur, h1, h2⟩
  · exact .inl (List.eq_nil_of_length_eq_zero (by omega))
  · cases h1
    refine .inr ⟨g, 0, rfl, (h.lt g rfl).2, fun j hj => ?_⟩
    rw [Nat.zero_add, h.cellAt j (by omega), List.getElem?_eq_getElem hj]
theorem At1.more {w : World} {hi hi' : Nat} {A : Option Addr} {xs : List Value} (h : At1 w hi A xs) (hh : hi ≤ hi') : At1 w hi' A xs := by
  rcases h with h | ⟨b, off, h1, h2, h3⟩
  · exact .inl h
  · exact .inr ⟨b, off, h1, Nat.lt_of_lt_of_le h2 hh, h3⟩

section
variable {H : Type} {enc : TypeId × Value → H} {W : World} {sp : Nat → Bool} {held : Bool}
/-- A slice of integers that came in. -/
theorem open_kind {t e : TypeId} {k : IntKind} (ht : Tryd.prog.underlying t = some (.slice e)) (he : Tryd.prog.underlying e = some (.int k)) (hc : Tryd.prog.cellsOf e = 1) {v : Value} {d : DataW H} {p : List MemPlace} {r : Reach} {b0 : Nat}
    (hv : Value.okWide Tryd.prog W r b0 t v) (h : DataW.Trod enc Tryd.prog W 0 sp held t v d p) :
    ∃ (l : List Int) (A : Option Addr) (cap : Nat), v = .slice A l.length cap ∧ l.length ≤ maxLen ∧ (∀ z ∈ l, (Lit.int k z).wf = true) ∧ At1 W W.heap.size A (l.map (Value.int k)) := by
  obtain ⟨a1, len, cap, rfl⟩ := okWide_slice ht hv
  obtain ⟨fuel, hf⟩ := h
  rcases open_ints ht he hc hf with ⟨hcs, _⟩ | ⟨a, len', cap', zs, hcs, _, hl, hm, hz, _, hcell, hwz⟩
  · simp [Value.cells] at hcs
    obtain ⟨rfl, rfl, rfl⟩ := hcs
    exact ⟨[], none, 0, rfl, Nat.zero_le _, (fun z hz => by cases hz), .inl rfl⟩
  · simp [Value.cells] at hcs
    obtain ⟨rfl, rfl, rfl⟩ := hcs
    have hzl : len ≤ zs.length := by rw [hz]; split <;> omega
    have hll : (zs.take len).length = len := by rw [List.length_take]; omega
    refine ⟨zs.take len, some a, cap, by rw [hll], by rw [hll]; unfold maxLen at *; omega, fun z hz => hwz z (List.mem_of_mem_take hz), ?_⟩
    by_cases h0 : len = 0
    · refine .inl ?_
      rw [h0]; rfl
    · have hc0 := hcell 0 (by omega)
      obtain ⟨b, off, spot⟩ := a
      have hspot : spot = none := by
        have e : ((⟨b, off, spot⟩ : Addr).add 0) = ⟨b, off, spot⟩ := by simp [Addr.add]
        rw [e] at hc0
        exact World.cell?_spot hc0
      subst hspot
      refine .inr ⟨b, off, rfl, World.block_lt_of_cell? W _ hc0, fun j hj => ?_⟩
      rw [List.length_map, hll] at hj
      have h1 := hcell j (by omega)
      rw [Addr.add_lit] at h1
      rw [h1]
      simp [List.getD, List.getElem?_eq_getElem (show j < zs.length by omega)]
/-- A slice of texts that came in. -/
theorem open_row {t e : TypeId} (ht : Tryd.prog.underlying t = some (.slice e)) (he : Tryd.prog.underlying e = some .string) (hc : Tryd.prog.cellsOf e = 1) {v : Value} {d : DataW H} {p : List MemPlace} {r : Reach} {b0 : Nat}
    (hv : Value.okWide Tryd.prog W r b0 t v) (h : DataW.Trod enc Tryd.prog W 0 sp held t v d p) :
    ∃ (l : List ByteArray) (A : Option Addr) (cap : Nat), v = .slice A l.length cap ∧ l.length ≤ maxLen ∧ (∀ s ∈ l, s.size ≤ maxLen) ∧ At1 W W.heap.size A (l.map Value.string) := by
  obtain ⟨a1, len, cap, rfl⟩ := okWide_slice ht hv
  obtain ⟨fuel, hf⟩ := h
  rcases open_strings ht he hc hf with ⟨hcs, _⟩ | ⟨a, len', cap', zs, hcs, _, hl, hm, hz, _, hcell, hwz⟩
  · simp [Value.cells] at hcs
    obtain ⟨rfl, rfl, rfl⟩ := hcs
    exact ⟨[], none, 0, rfl, Nat.zero_le _, (fun z hz => by cases hz), .inl rfl⟩
  · simp [Value.cells] at hcs
    obtain ⟨rfl, rfl, rfl⟩ := hcs
    have hzl : len ≤ zs.length := by rw [hz]; split <;> omega
    have hll : (zs.take len).length = len := by rw [List.length_take]; omega
    refine ⟨zs.take len, some a, cap, by rw [hll], by rw [hll]; unfold maxLen at *; omega, fun z hz => hwz z (List.mem_of_mem_take hz), ?_⟩
    by_cases h0 : len = 0
    · refine .inl ?_
      rw [h0]; rfl
    · have hc0 := hcell 0 (by omega)
      obtain ⟨b, off, spot⟩ := a
      have hspot : spot = none := by
        have e : ((⟨b, off, spot⟩ : Addr).add 0) = ⟨b, off, spot⟩ := by simp [Addr.add]
        rw [e] at hc0
        exact World.cell?_spot hc0
      subst hspot
      refine .inr ⟨b, off, rfl, World.block_lt_of_cell? W _ hc0, fun j hj => ?_⟩
      rw [List.length_map, hll] at hj
      have h1 := hcell j (by omega)
      rw [Addr.add_lit] at h1
      rw [h1]
      simp [List.getD, List.getElem?_eq_getElem (show j < zs.length by omega)]
end
end Go.Proofs.YtcjamnfboifjeaaDoor

/-
  The drawing cursor: bytes and numbers from it.
-/
namespace Go.Proofs.YtcjamnfboifjeaaDoor
open Go.RowKit
set_option linter.unusedVariables false
set_option linter.unusedSimpArgs false
set_option maxRecDepth 100000

/-- Only block b changed, and what is new. -/
def Gr (b : Nat) (w w' : World) : Prop := w.grownBy w' (some b)
theorem Gr.refl (b : Nat) (w : World) : Gr b w w := World.grownBy.refl w _
theorem Gr.trans {b : Nat} {a c d : World} (h : Gr b a c) (k : Gr b c d) : Gr b a d := World.grownBy.trans h k
theorem Gr.alloc {b : Nat} {a w : World} (h : Gr b a w) (o : Obj) : Gr b a (w.alloc o) := h.trans (World.grownBy_alloc w o _)
theorem Gr.drewN {b : Nat} {a w : World} (h : Gr b a w) (n : Nat) : Gr b a (w.drewN n) := h.trans ⟨rfl, rfl, rfl, Nat.le_refl _, fun _ _ _ => rfl⟩
theorem Gr.drew {b : Nat} {a w : World} (h : Gr b a w) : Gr b a w.drew := h.trans ⟨rfl, rfl, rfl, Nat.le_refl _, fun _ _ _ => rfl⟩
theorem Gr.below {b B : Nat} {a w w' : World} (h : Gr b a w) (hb : Below B w w') (hB : w.heap.size ≤ B) : Gr b a w' := h.trans ⟨hb.os, hb.tape, hb.output, hb.size, fun k hk _ => hb.block k (Nat.lt_of_lt_of_le hk hB)⟩
theorem Gr.toBelow {b B : Nat} {w w' : World} (h : Gr b w w') (hB : B ≤ b) (hw : B ≤ w.heap.size) : Below B w w' := ⟨h.os, h.tape, h.output, h.size, fun k hk => h.block k (by omega) (by intro e; injection e with e; omega)⟩
theorem Gr.cell {b : Nat} {w w' : World} (h : Gr b w w') {g j : Nat} {v : Value} (hg : g ≠ b) (hc : w.cell? ⟨g, j, none⟩ = some v) : w'.cell? ⟨g, j, none⟩ = some v := World.grownBy.cell h hc (by intro e; injection e with e; exact hg e)
theorem Gr.set (b : Nat) (w : World) (i : Nat) (v : Value) : Gr b w (w.setCell ⟨b, i, none⟩ v) :=
  ⟨rfl, rfl, rfl, by simp, fun k _ hk => heap_setCell_other w ⟨b, i, none⟩ k v (fun e => hk (by simp [e]))⟩
/-- The cursor's block. -/
def CurB (w : World) (b : Nat) (A : Option Addr) (n cap : Nat) : Prop := ∃ (i : Nat) (h : Int), i ≤ n ∧ Blk w b 84 #[.slice A n cap, .int .i64 i, .int .i64 h]
/-- A cursor over bytes. -/
def Cur (w : World) (b : Nat) (A : Option Addr) (cap : Nat) (code : List UInt8) : Prop := CurB w b A code.length cap ∧ At1 w b A (code.map bv) ∧ code.length ≤ 1000000000
theorem Cur.lt {w : World} {b : Nat} {A : Option Addr} {cap : Nat} {code : List UInt8} (h : Cur w b A cap code) : b < w.heap.size := by
  obtain ⟨⟨i, h', _, hB⟩, _⟩ := h
  exact hB.lt
theorem Cur.below {w w' : World} {b : Nat} {A : Option Addr} {cap : Nat} {code : List UInt8} (h : Cur w b A cap code) {B : Nat} (hb : Below B w w') (hB : b < B) : Cur w' b A cap code := by
  obtain ⟨⟨i, h', hi, hB'⟩, h2, h3⟩ := h
  exact ⟨⟨i, h', hi, hB'.below hb hB⟩, h2.below hb (Nat.le_of_lt hB), h3⟩
theorem Cur.alloc {w : World} {b : Nat} {A : Option Addr} {cap : Nat} {code : List UInt8} (h : Cur w b A cap code) (o : Obj) : Cur (w.alloc o) b A cap code := h.below ((Below.refl w.heap.size w).alloc (Nat.le_refl _) o) h.lt
theorem Blk.set {w : World} {g : Nat} {t : TypeId} {cs : Array Value} (h : Blk w g t cs) (i : Nat) (v : Value) : Blk (w.setCell ⟨g, i, none⟩ v) g t (cs.setIfInBounds i v) := heap_setCell_same w g i cs t v h
theorem Blk.soft {w : World} {g : Nat} {t : TypeId} {cs : Array Value} (h : Blk w g t cs) (i : Nat) : w.frozen? ⟨g, i, none⟩ = false := frozen_of_row w g i cs t h
theorem At1.grown {w w' : World} {b : Nat} {A : Option Addr} {xs : List Value} (h : At1 w b A xs) (hg : Gr b w w') : At1 w' b A xs := by
  rcases h with h | ⟨g, off, h1, h2, h3⟩
  · exact .inl h
  · exact .inr ⟨g, off, h1, h2, fun j hj => hg.cell (by omega) (h3 j hj)⟩

theorem and255 (n : Int) : bits .and .i64 n 255 = ((n % 256).toNat : Int) := by
  have h255 : (BitVec.ofInt 64 255).toNat = 2 ^ 8 - 1 := by decide
  have key : (BitVec.ofInt 64 n &&& BitVec.ofInt 64 255).toNat = (n % ((2 ^ 64 : Nat) : Int)).toNat % 2 ^ 8 := by
    rw [BitVec.toNat_and, BitVec.toNat_ofInt, h255, Nat.and_two_pow_sub_one_eq_mod]
  show IntKind.i64.wrap ((BitVec.ofInt 64 n &&& BitVec.ofInt 64 255).toNat : Nat) = _
  rw [key, IntKind.wrap_i64]
  omega

/-- What drawing hands back behind a call: the cursor stands, and only it changed. -/
def Drawn (w : World) (b : Nat) (A : Option Addr) (cap : Nat) (code : List UInt8) (w' : World) : Prop := Cur w' b A cap code ∧ Gr b w w'

set_option maxHeartbeats 2000000 in
theorem dByte (b : Nat) (A : Option Addr) (cap : Nat) (code : List UInt8) (w : World) (hc : Cur w b A cap code) :
    Calls Tryd.prog 91 #[.pointer (some ⟨b, 0, none⟩)] w fun e w' => (∃ r : Nat, r < 256 ∧ e = .returned (.int .i64 r)) ∧ Drawn w b A cap code w' := by
  obtain ⟨⟨i, h, hi, hB⟩, hat, hn⟩ := hc
  have d2 : w.cell? ⟨b, 2, none⟩ = some (.int .i64 h) := hB.cell 2
  have k2 := hB.soft 2
  have HB := Lib.hid hB
  have HA := Lib.hid hat
  clear hB hat
  go_enter Tryd.func91, Tryd.ntmps91
  go_wp2_with fail
  generalize wrap64 (wrap64 (h * 6364136223846793005) + 1442695040888963407) = H
  have hB1 : Blk (w.setCell ⟨b, 2, none⟩ (.int .i64 H)) b 84 #[.slice A code.length cap, .int .i64 i, .int .i64 H] := HB.out.set 2 (.int .i64 H)
  have hg1 : Gr b w (w.setCell ⟨b, 2, none⟩ (.int .i64 H)) := Gr.set b w 2 _
  generalize w.setCell ⟨b, 2, none⟩ (.int .i64 H) = w1 at hB1 hg1 ⊢
  have HB1 := Lib.hid hB1
  have HG1 := Lib.hid hg1
  have e0 : w1.cell? ⟨b, 0, none⟩ = some (.slice A code.length cap) := hB1.cell 0
  have e1 : w1.cell? ⟨b, 1, none⟩ = some (.int .i64 i) := hB1.cell 1
  have e2 : w1.cell? ⟨b, 2, none⟩ = some (.int .i64 H) := hB1.cell 2
  clear d2 k2 hB1 hg1
  go_quiet (fail)
  rw [and255]
  have hX : (bits .xor .i64 (H / 8589934592) (H / 35184372088832) % 256).toNat < 256 := by omega
  generalize (bits .xor .i64 (H / 8589934592) (H / 35184372088832) % 256).toNat = X at hX ⊢
  have hg2 := HG1.out.drewN nq
  have hB2 : Blk (w1.drewN nq) b 84 #[.slice A code.length cap, .int .i64 i, .int .i64 H] := HB1.out
  generalize w1.drewN nq = w2 at hg2 hB2 ⊢
  have f0 : w2.cell? ⟨b, 0, none⟩ = some (.slice A code.length cap) := hB2.cell 0
  have f1 : w2.cell? ⟨b, 1, none⟩ = some (.int .i64 i) := hB2.cell 1
  have HB2 := Lib.hid hB2
  have HG2 := Lib.hid hg2
  clear e0 e1 e2 hB2 hg2
  by_cases hlt : i < code.length
  · obtain ⟨g, off, rfl, hgb, hcell⟩ := (HA.out.grown HG2.out).get (j := i) (by simpa using hlt)
    rw [List.getElem_map] at hcell
    unfold bv at hcell
    go_wp2_with fail
    go_quiet (fail)
    have hg3 := HG2.out.drewN nq
    have hB3 : Blk (w2.drewN nq) b 84 #[.slice (some ⟨g, off, none⟩) code.length cap, .int .i64 i, .int .i64 H] := HB2.out
    have hcell3 : (w2.drewN nq).cell? ⟨g, off + i, none⟩ = some (.int .u8 ((code[i]).toNat : Int)) := hcell
    generalize w2.drewN nq = w3 at hg3 hB3 hcell3 ⊢
    have e0 : w3.cell? ⟨b, 0, none⟩ = some (.slice (some ⟨g, off, none⟩) code.length cap) := hB3.cell 0
    have e1 : w3.cell? ⟨b, 1, none⟩ = some (.int .i64 i) := hB3.cell 1
    have hu : (code[i]).toNat < 256 := UInt8.toNat_lt _
    have HB3 := Lib.hid hB3
    have HG3 := Lib.hid hg3
    clear f0 f1 hcell hB3 hg3
    go_wp2_with fail
    go_quiet (fail)
    rw [and255]
    have hY : ((((X : Nat) : Int) + ((code[i]).toNat : Int)) % 256).toNat < 256 := by omega
    generalize ((((X : Nat) : Int) + ((code[i]).toNat : Int)) % 256).toNat = Y at hY ⊢
    have hg4 := HG3.out.drewN nq
    have hB4 : Blk (w3.drewN nq) b 84 #[.slice (some ⟨g, off, none⟩) code.length cap, .int .i64 i, .int .i64 H] := HB3.out
    generalize w3.drewN nq = w4 at hg4 hB4 ⊢
    have f1 : w4.cell? ⟨b, 1, none⟩ = some (.int .i64 i) := hB4.cell 1
    have k1 := hB4.soft 1
    have HB4 := Lib.hid hB4
    have HG4 := Lib.hid hg4
    clear e0 e1 hB4 hg4 hcell3
    go_wp2_with fail
    go_ret
    have hgN : Gr b w (w4.setCell ⟨b, 1, none⟩ (.int .i64 ((i + 1 : Nat) : Int))) := HG4.out.trans (Gr.set b w4 1 _)
    exact ⟨⟨Y, hY, rfl⟩, ⟨⟨i + 1, H, hlt, HB4.out.set 1 (.int .i64 ((i + 1 : Nat) : Int))⟩, HA.out.grown hgN, hn⟩, hgN⟩
  · go_wp2_with fail
    go_quiet (fail)
    go_wp2_with fail
    go_ret
    exact ⟨⟨X, hX, rfl⟩, ⟨⟨i, H, hi, HB2.out⟩, HA.out.grown (HG2.out.drewN _), hn⟩, HG2.out.drewN _⟩

theorem tmodN (x n : Nat) : Int.tmod (x : Int) (n : Int) = ((x % n : Nat) : Int) := by
  rw [Int.tmod_eq_emod_of_nonneg (by omega)]
  omega

set_option maxHeartbeats 2000000 in
theorem dBelow (n : Nat) (b : Nat) (A : Option Addr) (cap : Nat) (code : List UInt8) (w : World) (h0 : 0 < n) (hn : n ≤ 2000000000) (hc : Cur w b A cap code) :
    Calls Tryd.prog 68 #[.pointer (some ⟨b, 0, none⟩), .int .i64 n] w fun e w' => (∃ r : Nat, r < n ∧ e = .returned (.int .i64 r)) ∧ Drawn w b A cap code w' := by
  have HC := Lib.hid hc
  clear hc
  have hn0 : ¬ (n : Int) = 0 := by omega
  by_cases h256 : n ≤ 256
  · go_enter Tryd.func68, Tryd.ntmps68
    go_wp2_with fail
    refine (dByte b A cap code w HC.out).mono ?_
    rintro e w1 ⟨⟨r, hr, rfl⟩, hd⟩
    go_wp2_with fail
    go_ret
    exact ⟨⟨r % n, Nat.mod_lt _ h0, ret_eq (congrArg (Value.int .i64) (by simp))⟩, hd⟩
  · go_enter Tryd.func68, Tryd.ntmps68
    go_wp2_with fail
    refine (dByte b A cap code w HC.out).mono ?_
    rintro e w1 ⟨⟨r1, hr1, rfl⟩, hd1⟩
    go_wp2_with fail
    refine (dByte b A cap code w1 hd1.1).mono ?_
    rintro e w2 ⟨⟨r2, hr2, rfl⟩, hd2⟩
    go_wp2_with fail
    refine (dByte b A cap code w2 hd2.1).mono ?_
    rintro e w3 ⟨⟨r3, hr3, rfl⟩, hd3⟩
    go_wp2_with fail
    refine (dByte b A cap code w3 hd3.1).mono ?_
    rintro e w4 ⟨⟨r4, hr4, rfl⟩, hd4⟩
    go_wp2_with fail
    go_ret
    exact ⟨⟨(r1 * 16777216 + r2 * 65536 + r3 * 256 + r4) % n, Nat.mod_lt _ h0, ret_eq (congrArg (Value.int .i64) (by simp))⟩, hd4.1, hd1.2.trans (hd2.2.trans (hd3.2.trans hd4.2))⟩

theorem dOnce (n : Nat) (b : Nat) (A : Option Addr) (cap : Nat) (code : List UInt8) (w : World) (h0 : 0 < n) (hn : n ≤ 2000000000) (hc : Cur w b A cap code) :
    Calls Tryd.prog 55 #[.pointer (some ⟨b, 0, none⟩), .int .i64 n] w fun e w' => (∃ r : Bool, e = .returned (.bool r)) ∧ Drawn w b A cap code w' := by
  have HC := Lib.hid hc
  clear hc
  go_enter Tryd.func55, Tryd.ntmps55
  go_wp2_with fail
  refine (dBelow n b A cap code w h0 hn HC.out).mono ?_
  rintro e w1 ⟨⟨r, hr, rfl⟩, hd⟩
  by_cases hz : r = 0
  · subst hz
    go_wp2_with fail
    go_ret
    exact ⟨⟨_, rfl⟩, hd⟩
  · have hz2 : ¬ (r : Int) = 0 := by omega
    go_wp2_with fail
    go_ret
    exact ⟨⟨_, rfl⟩, hd⟩

/-- A row to pick from. -/
def PickRow (w : World) (b g : Nat) (xs : List Value) : Prop := g ≠ b ∧ ∀ j (h : j < xs.length), w.cell? ⟨g, j, none⟩ = some xs[j]
theorem PickRow.new {w : World} {b : Nat} (hb : b < w.heap.size) (xs : Array Value) (t : TypeId) : PickRow (w.alloc (.cells xs t)) b w.heap.size xs.toList := by
  refine ⟨by omega, fun j hj => ?_⟩
  simp

set_option maxHeartbeats 2000000 in
theorem dPick (l : List ByteArray) (g c : Nat) (b : Nat) (A : Option Addr) (cap : Nat) (code : List UInt8) (w : World) (h0 : 0 < l.length) (hn : l.length ≤ 1000) (hc : Cur w b A cap code) (hp : PickRow w b g (l.map Value.string)) :
    Calls Tryd.prog 65 #[.pointer (some ⟨b, 0, none⟩), .slice (some ⟨g, 0, none⟩) l.length c] w fun e w' => (∃ s ∈ l, e = .returned (.string s)) ∧ Drawn w b A cap code w' := by
  have HC := Lib.hid hc
  have HP := Lib.hid hp
  clear hc hp
  go_enter Tryd.func65, Tryd.ntmps65
  go_wp2_with fail
  refine (dBelow l.length b A cap code w h0 (by omega) HC.out).mono ?_
  rintro e w1 ⟨⟨r, hr, rfl⟩, hd⟩
  have d0 := hd.2.cell HP.out.1 (HP.out.2 r (by simpa using hr))
  rw [List.getElem_map] at d0
  go_wp2_with fail
  go_ret
  exact ⟨⟨_, List.getElem_mem hr, rfl⟩, hd⟩

set_option maxHeartbeats 2000000 in
theorem dPickInt (l : List Int) (g c : Nat) (b : Nat) (A : Option Addr) (cap : Nat) (code : List UInt8) (w : World) (h0 : 0 < l.length) (hn : l.length ≤ 1000) (hc : Cur w b A cap code) (hp : PickRow w b g (l.map (Value.int .i64))) :
    Calls Tryd.prog 80 #[.pointer (some ⟨b, 0, none⟩), .slice (some ⟨g, 0, none⟩) l.length c] w fun e w' => (∃ z ∈ l, e = .returned (.int .i64 z)) ∧ Drawn w b A cap code w' := by
  have HC := Lib.hid hc
  have HP := Lib.hid hp
  clear hc hp
  go_enter Tryd.func80, Tryd.ntmps80
  go_wp2_with fail
  refine (dBelow l.length b A cap code w h0 (by omega) HC.out).mono ?_
  rintro e w1 ⟨⟨r, hr, rfl⟩, hd⟩
  have d0 := hd.2.cell HP.out.1 (HP.out.2 r (by simpa using hr))
  rw [List.getElem_map] at d0
  go_wp2_with fail
  go_ret
  exact ⟨⟨_, List.getElem_mem hr, rfl⟩, hd⟩
end Go.Proofs.YtcjamnfboifjeaaDoor

/-
  The drawing cursor: a new one; short texts; a text bent.
-/
namespace Go.Proofs.YtcjamnfboifjeaaDoor
open Go.RowKit
set_option linter.unusedVariables false
set_option linter.unusedSimpArgs false
set_option maxRecDepth 100000

set_option maxHeartbeats 2000000 in
theorem dNew (A : Option Addr) (cap : Nat) (code : List UInt8) (w : World) (hat : At1 w w.heap.size A (code.map bv)) (hn : code.length ≤ 1000000000) :
    Calls Tryd.prog 53 #[.slice A code.length cap] w fun e w' => e = .returned (.pointer (some ⟨w.heap.size, 0, none⟩)) ∧ Cur w' w.heap.size A cap code ∧ Below w.heap.size w w' := by
  have HA := Lib.hid hat
  clear hat
  go_enter Tryd.func53, Tryd.ntmps53
  go_wp2_with fail
  go_loop [3, 4] (fun h i => ∃ (j : Nat) (H : Int), j ≤ code.length ∧ i = .int .i64 j ∧ h = .int .i64 H) (fun _ i => code.length - (intOf i).toNat)
  case atStart => exact ⟨0, _, Nat.zero_le _, rfl, rfl⟩
  case round =>
    obtain ⟨j, H, hj, rfl, rfl⟩ := hrel
    have fin : ∀ (H : Int), Cur (w.alloc (.cells #[.slice A code.length cap, .int .i64 0, .int .i64 H] 84)) w.heap.size A cap code ∧ Below w.heap.size w (w.alloc (.cells #[.slice A code.length cap, .int .i64 0, .int .i64 H] 84)) := fun H =>
      ⟨⟨⟨0, H, Nat.zero_le _, Blk.new w _ _⟩, HA.out.below ((Below.refl w.heap.size w).alloc (Nat.le_refl _) _) (Nat.le_refl _), hn⟩, (Below.refl _ _).alloc (Nat.le_refl _) _⟩
    have HF := Lib.hid fin
    clear fin
    by_cases hlt : j < code.length
    · by_cases h4 : j < 4000
      · obtain ⟨g, off, rfl, hgb, hcell⟩ := HA.out.get (j := j) (by simpa using hlt)
        rw [List.getElem_map] at hcell
        unfold bv at hcell
        have h4i : (j : Int) < 4000 := by omega
        go_wp2_with fail
        go_round
        case rel => exact ⟨j + 1, _, hlt, by go_num, rfl⟩
        case measure => simp [intOf]; omega
      · have h4i : ¬ (j : Int) < 4000 := by omega
        go_wp2_with fail
        go_ret
        exact ⟨rfl, HF.out _⟩
    · obtain rfl : j = code.length := by omega
      go_wp2_with fail
      go_ret
      exact ⟨rfl, HF.out _⟩

theorem Drawn.trans {b cap : Nat} {A : Option Addr} {code : List UInt8} {a c d : World} (h : Drawn a b A cap code c) (k : Drawn c b A cap code d) : Drawn a b A cap code d := ⟨k.1, h.2.trans k.2⟩
theorem Drawn.refl {b cap : Nat} {A : Option Addr} {code : List UInt8} {w : World} (h : Cur w b A cap code) : Drawn w b A cap code w := ⟨h, Gr.refl _ _⟩
theorem Drawn.alloc {b cap : Nat} {A : Option Addr} {code : List UInt8} {w : World} (h : Cur w b A cap code) (o : Obj) : Drawn w b A cap code (w.alloc o) := ⟨h.alloc o, (Gr.refl _ _).alloc o⟩
theorem Drawn.of {b cap : Nat} {A : Option Addr} {code : List UInt8} {w w' : World} (h : Cur w b A cap code) (hb : Below w.heap.size w w') : Drawn w b A cap code w' := ⟨h.below hb h.lt, (Gr.refl _ _).below hb (Nat.le_refl _)⟩
/-- Picking from a new row of texts. -/
theorem dPickNew (l : List ByteArray) (b : Nat) (A : Option Addr) (cap : Nat) (code : List UInt8) (w : World) (h0 : 0 < l.length) (hn : l.length ≤ 1000) (hc : Cur w b A cap code) :
    Calls Tryd.prog 65 #[.pointer (some ⟨b, 0, none⟩), .slice (some ⟨w.heap.size, 0, none⟩) l.length l.length] (w.alloc (.cells (l.map Value.string).toArray 9)) fun e w' => (∃ s ∈ l, e = .returned (.string s)) ∧ Drawn w b A cap code w' := by
  have hp := PickRow.new hc.lt (l.map Value.string).toArray 9
  rw [List.toList_toArray] at hp
  refine (dPick l w.heap.size l.length b A cap code _ h0 hn (hc.alloc _) hp).mono ?_
  rintro e w' ⟨he, hd⟩
  exact ⟨he, (Drawn.alloc hc _).trans hd⟩
theorem dPickNewD (l : List ByteArray) (b : Nat) (A : Option Addr) (cap : Nat) (code : List UInt8) (w : World) (h0 : 0 < l.length) (hn : l.length ≤ 1000) (hc : Cur w b A cap code) :
    Calls Tryd.prog 65 #[.pointer (some ⟨b, 0, none⟩), .slice (some ⟨w.heap.size, 0, none⟩) l.length l.length] (w.alloc (.cells (l.map Value.string).toArray 9)).drew fun e w' => (∃ s ∈ l, e = .returned (.string s)) ∧ Drawn w b A cap code w' := by
  have hp := PickRow.new hc.lt (l.map Value.string).toArray 9
  rw [List.toList_toArray] at hp
  refine (dPick l w.heap.size l.length b A cap code _ h0 hn (show Cur (w.alloc (.cells (l.map Value.string).toArray 9)).drew b A cap code from hc.alloc _) hp).mono ?_
  rintro e w' ⟨he, hd⟩
  exact ⟨he, hd.1, (((Gr.refl _ _).alloc _).drew).trans hd.2⟩
theorem dPickIntNewD (l : List Int) (b : Nat) (A : Option Addr) (cap : Nat) (code : List UInt8) (w : World) (h0 : 0 < l.length) (hn : l.length ≤ 1000) (hc : Cur w b A cap code) :
    Calls Tryd.prog 80 #[.pointer (some ⟨b, 0, none⟩), .slice (some ⟨w.heap.size, 0, none⟩) l.length l.length] (w.alloc (.cells (l.map (Value.int .i64)).toArray 3)).drew fun e w' => (∃ z ∈ l, e = .returned (.int .i64 z)) ∧ Drawn w b A cap code w' := by
  have hp := PickRow.new hc.lt (l.map (Value.int .i64)).toArray 3
  rw [List.toList_toArray] at hp
  refine (dPickInt l w.heap.size l.length b A cap code _ h0 hn (show Cur (w.alloc (.cells (l.map (Value.int .i64)).toArray 3)).drew b A cap code from hc.alloc _) hp).mono ?_
  rintro e w' ⟨he, hd⟩
  exact ⟨he, hd.1, (((Gr.refl _ _).alloc _).drew).trans hd.2⟩
theorem dPickIntNew (l : List Int) (b : Nat) (A : Option Addr) (cap : Nat) (code : List UInt8) (w : World) (h0 : 0 < l.length) (hn : l.length ≤ 1000) (hc : Cur w b A cap code) :
    Calls Tryd.prog 80 #[.pointer (some ⟨b, 0, none⟩), .slice (some ⟨w.heap.size, 0, none⟩) l.length l.length] (w.alloc (.cells (l.map (Value.int .i64)).toArray 3)) fun e w' => (∃ z ∈ l, e = .returned (.int .i64 z)) ∧ Drawn w b A cap code w' := by
  have hp := PickRow.new hc.lt (l.map (Value.int .i64)).toArray 3
  rw [List.toList_toArray] at hp
  refine (dPickInt l w.heap.size l.length b A cap code _ h0 hn (hc.alloc _) hp).mono ?_
  rintro e w' ⟨he, hd⟩
  exact ⟨he, (Drawn.alloc hc _).trans hd⟩

def someL : List ByteArray := [⟨#[97]⟩, ⟨#[98]⟩, ⟨#[110, 97, 109, 101]⟩, ⟨#[34]⟩, ⟨#[92]⟩, ⟨#[10]⟩, ⟨#[1]⟩, ⟨#[195, 169]⟩, ⟨#[226, 130, 172]⟩, ⟨#[240, 159, 152, 128]⟩, ⟨#[47]⟩, ⟨#[48]⟩, ⟨#[32]⟩]
theorem someL_size : ∀ s ∈ someL, s.size ≤ 4 := by decide
set_option maxHeartbeats 2000000 in
theorem dSome (b : Nat) (A : Option Addr) (cap : Nat) (code : List UInt8) (w : World) (hc : Cur w b A cap code) :
    Calls Tryd.prog 94 #[.pointer (some ⟨b, 0, none⟩)] w fun e w' => (∃ s : ByteArray, s.size ≤ 16 ∧ e = .returned (.string s)) ∧ Drawn w b A cap code w' := by
  have HC := Lib.hid hc
  clear hc
  go_enter Tryd.func94, Tryd.ntmps94
  go_wp2_with fail
  refine (dBelow 5 b A cap code w (by omega) (by omega) HC.out).mono ?_
  rintro e w1 ⟨⟨n, hn, rfl⟩, hd1⟩
  have HD1 := Lib.hid hd1
  clear hd1
  go_wp2_with fail
  go_loopw [3, 5] (fun o i wr => ∃ (j : Nat) (t : ByteArray), j ≤ n ∧ i = .int .i64 j ∧ o = .string t ∧ t.size ≤ 4 * j ∧ Hid (Drawn w b A cap code wr)) (fun _ i _ => n - (intOf i).toNat)
  case atStart => exact ⟨0, ⟨#[]⟩, Nat.zero_le _, rfl, rfl, Nat.zero_le _, HD1⟩
  case round =>
    obtain ⟨j, t, hj, rfl, rfl, ht, HD⟩ := hrel
    by_cases hlt : j < n
    · go_wp2_with fail
      refine (dPickNew someL b A cap code _ (by decide) (by decide) HD.out.1).mono ?_
      rintro e w2 ⟨⟨p, hp, rfl⟩, hd2⟩
      have hps := someL_size p hp
      have HD2 := Lib.hid (HD.out.trans hd2)
      clear hp hd2
      go_wp2_with fail
      go_roundw
      case rel => exact ⟨j + 1, t ++ p, hlt, by go_num, rfl, by simp; omega, HD2⟩
      case measure => simp [intOf]; omega
    · obtain rfl : j = n := by omega
      go_wp2_with fail
      go_ret
      exact ⟨⟨t, by omega, rfl⟩, HD.out⟩
theorem Drawn.toBelow {b cap : Nat} {A : Option Addr} {code : List UInt8} {w0 w w' : World} (h : Drawn w b A cap code w') (h0 : Below w0.heap.size w0 w) (hb : w0.heap.size ≤ b) : Below w0.heap.size w0 w' := h0.trans (h.2.toBelow hb h0.size)
/-- What a draw of a text hands back: some text of bounded size. -/
def Drew (n : Nat) (w : World) (e : Ending) (w' : World) : Prop := (∃ t : ByteArray, t.size ≤ n ∧ e = .returned (.string t)) ∧ Below w.heap.size w w'
end Go.Proofs.YtcjamnfboifjeaaDoor

/-
  Numbers of 64 bits.
-/
namespace Go.Proofs.YtcjamnfboifjeaaDoor
open Go.RowKit

/-- A number as a value of 64 bits. -/
def i64of (n : Nat) : Int := wrap64 (n : Int)
theorem wrap64_eq (n : Int) : wrap64 n = (n + 9223372036854775808) % 18446744073709551616 - 9223372036854775808 := by unfold wrap64; rfl
theorem i64of_zero : i64of 0 = 0 := by unfold i64of; rw [wrap64_eq]; rfl
theorem i64of_small (n : Nat) (h : n < 9223372036854775808) : i64of n = (n : Int) := by unfold i64of; rw [wrap64_eq]; omega
theorem i64of_succ (n : Nat) : wrap64 (i64of n + 1) = i64of (n + 1) := by unfold i64of; rw [wrap64_eq, wrap64_eq, wrap64_eq]; omega
end Go.Proofs.YtcjamnfboifjeaaDoor
