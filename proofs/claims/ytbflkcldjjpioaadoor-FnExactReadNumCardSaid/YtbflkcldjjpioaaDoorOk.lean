/-
  What the proofs of this seat share: values as trees, the laws' own functions on them, and whether a value is right.
-/
import Derived.Test.YtbflkcldjjpioaaDoorRows
import Derived.WalkKit
import Derived.ProofKit
import Derived.OpenShut
import Derived.ShutString
import Derived.ChangeOld
import Derived.Below
import Derived.WalkSpells
import Derived.WalkLawsBesides
import Derived.Lib.Hide
import Derived.Laws.BitsAllLaws
import Derived.Laws.OwnMore
import Derived.RegionTactic
import Derived.OwnWalk
import Derived.Deep.Draws
import Derived.Laws.IdiomStrings
import Derived.Maps.AppendAt
import Derived.Deep.Slices
import Derived.Laws.Rows
import Derived.Lib.DecodeN
import Derived.Lib.ValidLaws
import Derived.BigQuiet
import Derived.Deep.RegionHeld3
import Derived.Shelf.Unicode.DecodeSlow
import Derived.Test.YtbflkcldjjpioaaDoorShelfV
import Derived.BigRegion
import Derived.ChangeAlike
import Derived.Shelf.Abstract
import Derived.StillTailTactics
import Derived.OneCell
import Derived.Deep.RegionWith
import Derived.PinnedBridge
import Derived.Lib.LaidU8T
/-
  Facts about the program that every text of this seat uses.
-/
namespace Go.Proofs.YtbflkcldjjpioaaDoor
open Go.ChangeShapes Go.WideShapes Go.ChangeAt Go.RowKit
theorem own : ownKnob Tryd.prog.godebug = none := by kernel_rfl
theorem laidOut : laidOutB Tryd.prog = true := by kernel_rfl
end Go.Proofs.YtbflkcldjjpioaaDoor

/-
  Plain facts on lists of bytes; no program.
-/
namespace Go.Proofs.YtbflkcldjjpioaaDoor
open Go.RowKit

/-- A byte as a value. -/
def bv (b : UInt8) : Value := .int .u8 (b.toNat : Int)

theorem bv_one (l : List UInt8) : ∀ u ∈ l.map bv, u.oneCell' = true := by
  intro u hu
  obtain ⟨_, _, rfl⟩ := List.mem_map.1 hu
  rfl

/-- The text of a list of bytes. -/
def str (l : List UInt8) : ByteArray := ⟨l.toArray⟩

/-- One hexadecimal digit. -/
def hexD (n : Nat) : UInt8 := if n < 10 then UInt8.ofNat (48 + n) else UInt8.ofNat (87 + n)
def hexOf (l : List UInt8) : List UInt8 := l.flatMap fun b => [hexD (b.toNat / 16), hexD (b.toNat % 16)]
theorem hexOf_len (l : List UInt8) : (hexOf l).length = 2 * l.length := by
  induction l with
  | nil => rfl
  | cons b l ih => simp only [hexOf, List.flatMap_cons, List.length_append, List.length_cons, List.length_nil] at *; omega
theorem hexOf_snoc (l : List UInt8) (b : UInt8) : hexOf (l ++ [b]) = hexOf l ++ [hexD (b.toNat / 16), hexD (b.toNat % 16)] := by
  simp [hexOf]
theorem take_snoc (s : ByteArray) (k : Nat) (h : k < s.size) : s.data.toList.take (k + 1) = s.data.toList.take k ++ [s[k]] := by
  rw [List.take_succ_eq_append_getElem (by simpa using h)]; rfl

theorem and15 (n : Nat) (h : n < 256) : bits .and .u8 (n : Int) 15 = ((n % 16 : Nat) : Int) := by
  rw [show (15 : Int) = ((15 : Nat) : Int) from rfl, u8_and_nat n 15 h (by omega)]
  congr 1
  exact Nat.and_two_pow_sub_one_eq_mod n 4
/-- The text of the sixteen digits. -/
theorem digit_at (n : Nat) (h : n < 16) : ∃ hn, (ByteArray.mk #[48, 49, 50, 51, 52, 53, 54, 55, 56, 57, 97, 98, 99, 100, 101, 102])[n]'hn = hexD n := by
  refine ⟨h, ?_⟩
  have : ∀ m : Fin 16, (ByteArray.mk #[48, 49, 50, 51, 52, 53, 54, 55, 56, 57, 97, 98, 99, 100, 101, 102])[m.val]'m.isLt = hexD m.val := by decide
  exact this ⟨n, h⟩
theorem digit_at' (n : Nat) (hn) : (ByteArray.mk #[48, 49, 50, 51, 52, 53, 54, 55, 56, 57, 97, 98, 99, 100, 101, 102])[n]'hn = hexD n := (digit_at n hn).2
theorem hex_cells (n : Nat) (p q) : #[Value.int .u8 (((ByteArray.mk #[48, 49, 50, 51, 52, 53, 54, 55, 56, 57, 97, 98, 99, 100, 101, 102])[((n : Int) / 16).toNat]'p).toNat : Int), Value.int .u8 (((ByteArray.mk #[48, 49, 50, 51, 52, 53, 54, 55, 56, 57, 97, 98, 99, 100, 101, 102])[((n : Int) % 16).toNat]'q).toNat : Int)].toList = [hexD (n / 16), hexD (n % 16)].map bv := by
  rw [digit_at', digit_at']
  have e1 : ((n : Int) / 16).toNat = n / 16 := by omega
  have e2 : ((n : Int) % 16).toNat = n % 16 := by omega
  rw [e1, e2]
  rfl
theorem quo16 (n : Nat) (h : n < 256) : IntKind.u8.wrap ((n : Int) / 16) = (n : Int) / 16 := by
  rw [IntKind.wrap_u8']; omega
theorem rem16 (n : Nat) : (n : Int).tmod 16 = (n : Int) % 16 := Int.tmod_eq_emod_of_nonneg (by omega)
end Go.Proofs.YtbflkcldjjpioaaDoor

/-
  Laws for this seat's walks: an append onto a row of the call's own, said together with what lay below.
-/
namespace Go.Proofs.YtbflkcldjjpioaaDoor
open Go.RowKit

section
variable {P : Program} {ops : Array Oper} {o : Oper} {a : Act} {w : World} {K : Act → World → Prop} {Q : Exit → Act → World → Prop}

theorem wp_app (s x : Operand) (t : TypeId) (ho : o.op = .call { callee := .builtin .append, args := #[s, x], argTypes := #[t, t] })
    (base : Nat) (e : TypeId) {z : Value} {size bytes : Nat} (ht : P.underlying t = some (.slice e)) (hinfo : (P.info? e).map (fun i => (i.zero, i.size, i.bytes)) = some (some z, size, bytes)) (hzs : z.cells.size = size) (hsz : 0 < size)
    {W : World} {v : Value} {n : Nat} {xs : List Value} (hs : a.eval s = v) (hown : w.ownsRow base e size v n xs) (hb : Below base W w) (hB : base ≤ w.heap.size)
    (ad : Addr) (m c : Nat) (news : List Value) (hx : a.eval x = .slice (some ad) m c) (hl : news.length = m * size) (hnews : ∀ j u, news[j]? = some u → w.cell? (ad.add j) = some u) (h1 : ∀ u ∈ news, u.oneCell' = true)
    (h63 : n + m ≤ maxLen) (hbytes : (n + m) * bytes ≤ 140737488355328)
    (h : ∀ v' w', w'.ownsRow base e size v' (n + m) (xs ++ news) → Below base W w' → base ≤ w'.heap.size → K (a.put o.dst v') w') : o.wp P a w K Q := by
  obtain ⟨i, hi, hz, hsize, hby⟩ := info_parts hinfo
  obtain ⟨v', w', hrun, h2, h3, h4⟩ := run_append_own (P := P) w base t o.type e i z size bytes ht hi hz hsize hby hzs hsz v n xs hown ad m c news hl hnews h1 h63 hbytes hB
  unfold Oper.wp execOp
  simp only [ho, resolve, invoke, builtin, Sem.run_bind, Sem.run_pure, Result.andThen_ok, List.map_toArray, List.map_cons, List.map_nil, hs, hx, hrun]
  exact h v' w' h2 (hb.grown h3 hB (fun k hk => (hown.lt k hk).1)) (Nat.le_trans hB h3.size)

/-- The same as a step of a list of operations. -/
theorem wpList_app {rest : List Oper} (hgd : o.guard = none) (s x : Operand) (t : TypeId) (ho : o.op = .call { callee := .builtin .append, args := #[s, x], argTypes := #[t, t] })
    (base : Nat) (e : TypeId) {z : Value} {size bytes : Nat} (ht : P.underlying t = some (.slice e)) (hinfo : (P.info? e).map (fun i => (i.zero, i.size, i.bytes)) = some (some z, size, bytes)) (hzs : z.cells.size = size) (hsz : 0 < size)
    {W : World} {v : Value} {n : Nat} {xs : List Value} (hs : a.eval s = v) (hown : w.ownsRow base e size v n xs) (hb : Below base W w) (hB : base ≤ w.heap.size)
    (ad : Addr) (m c : Nat) (news : List Value) (hx : a.eval x = .slice (some ad) m c) (hl : news.length = m * size) (hnews : ∀ j u, news[j]? = some u → w.cell? (ad.add j) = some u) (h1 : ∀ u ∈ news, u.oneCell' = true)
    (h63 : n + m ≤ maxLen) (hbytes : (n + m) * bytes ≤ 140737488355328)
    (h : ∀ v' w', w'.ownsRow base e size v' (n + m) (xs ++ news) → Below base W w' → base ≤ w'.heap.size → wpList P ops Q rest (a.put o.dst v') w') : wpList P ops Q (o :: rest) a w :=
  wpList_plain hgd fun _ hK => wp_app s x t ho base e ht hinfo hzs hsz hs hown hb hB ad m c news hx hl hnews h1 h63 hbytes fun v' w' h2 h3 h4 => hK _ _ (h v' w' h2 h3 h4)

/-- An append that says which block the row lies in behind it. -/
theorem wpList_app2 {rest : List Oper} (hgd : o.guard = none) (s x : Operand) (t : TypeId) (ho : o.op = .call { callee := .builtin .append, args := #[s, x], argTypes := #[t, t] })
    (base : Nat) (e : TypeId) {z : Value} {size bytes : Nat} (ht : P.underlying t = some (.slice e)) (hinfo : (P.info? e).map (fun i => (i.zero, i.size, i.bytes)) = some (some z, size, bytes)) (hzs : z.cells.size = size) (hsz : 0 < size)
    {v : Value} {n : Nat} {xs : List Value} (hs : a.eval s = v) (hown : w.ownsRow base e size v n xs) (hB : base ≤ w.heap.size)
    (ad : Addr) (m c : Nat) (news : List Value) (hx : a.eval x = .slice (some ad) m c) (hl : news.length = m * size) (hnews : ∀ j u, news[j]? = some u → w.cell? (ad.add j) = some u) (h1 : ∀ u ∈ news, u.oneCell' = true)
    (h63 : n + m ≤ maxLen) (hbytes : (n + m) * bytes ≤ 140737488355328)
    (h : ∀ v' w', w'.ownsRow base e size v' (n + m) (xs ++ news) → w.grownBy w' v.ownBlock → (v'.ownBlock = v.ownBlock ∨ v'.ownBlock = some w.heap.size) → wpList P ops Q rest (a.put o.dst v') w') : wpList P ops Q (o :: rest) a w :=
  wpList_plain hgd fun _ hK => by
    obtain ⟨i, hi, hz, hsize, hby⟩ := info_parts hinfo
    obtain ⟨v', w', hrun, h2, h3, h4, h5⟩ := run_append_own_at (P := P) w base t o.type e i z size bytes ht hi hz hsize hby hzs hsz v n xs hown ad m c news hl hnews h1 h63 hbytes hB
    unfold Oper.wp execOp
    simp only [ho, resolve, invoke, builtin, Sem.run_bind, Sem.run_pure, Result.andThen_ok, List.map_toArray, List.map_cons, List.map_nil, hs, hx, hrun]
    exact hK _ _ (h v' w' h2 h3 h5)
/-- An append that says besides when the row is nil. -/
theorem wpList_app3 {rest : List Oper} (hgd : o.guard = none) (s x : Operand) (t : TypeId) (ho : o.op = .call { callee := .builtin .append, args := #[s, x], argTypes := #[t, t] })
    (base : Nat) (e : TypeId) {z : Value} {size bytes : Nat} (ht : P.underlying t = some (.slice e)) (hinfo : (P.info? e).map (fun i => (i.zero, i.size, i.bytes)) = some (some z, size, bytes)) (hzs : z.cells.size = size) (hsz : 0 < size)
    {v : Value} {n : Nat} {xs : List Value} (hs : a.eval s = v) (hown : w.ownsRow base e size v n xs) (hB : base ≤ w.heap.size)
    (ad : Addr) (m c : Nat) (news : List Value) (hx : a.eval x = .slice (some ad) m c) (hl : news.length = m * size) (hnews : ∀ j u, news[j]? = some u → w.cell? (ad.add j) = some u) (h1 : ∀ u ∈ news, u.oneCell' = true)
    (h63 : n + m ≤ maxLen) (hbytes : (n + m) * bytes ≤ 140737488355328)
    (h : ∀ v' w', w'.ownsRow base e size v' (n + m) (xs ++ news) → w.grownBy w' v.ownBlock → (v'.ownBlock = v.ownBlock ∨ v'.ownBlock = some w.heap.size) → (v' = .slice none 0 0 ↔ v = .slice none 0 0 ∧ m = 0) → wpList P ops Q rest (a.put o.dst v') w') : wpList P ops Q (o :: rest) a w :=
  wpList_plain hgd fun _ hK => by
    obtain ⟨i, hi, hz, hsize, hby⟩ := info_parts hinfo
    obtain ⟨v', w', hrun, h2, h3, h4, h5⟩ := run_append_own_at (P := P) w base t o.type e i z size bytes ht hi hz hsize hby hzs hsz v n xs hown ad m c news hl hnews h1 h63 hbytes hB
    unfold Oper.wp execOp
    simp only [ho, resolve, invoke, builtin, Sem.run_bind, Sem.run_pure, Result.andThen_ok, List.map_toArray, List.map_cons, List.map_nil, hs, hx, hrun]
    exact hK _ _ (h v' w' h2 h3 h5 h4)
/-- The same as one step of a region that draws its order. -/
theorem step_app {E : Prop} (hgd : o.guard = none) (s x : Operand) (t : TypeId) (ho : o.op = .call { callee := .builtin .append, args := #[s, x], argTypes := #[t, t] })
    (base : Nat) (e : TypeId) {z : Value} {size bytes : Nat} (ht : P.underlying t = some (.slice e)) (hinfo : (P.info? e).map (fun i => (i.zero, i.size, i.bytes)) = some (some z, size, bytes)) (hzs : z.cells.size = size) (hsz : 0 < size)
    {W : World} {v : Value} {n : Nat} {xs : List Value} (hs : a.eval s = v) (hown : w.ownsRow base e size v n xs) (hb : Below base W w) (hB : base ≤ w.heap.size)
    (ad : Addr) (m c : Nat) (news : List Value) (hx : a.eval x = .slice (some ad) m c) (hl : news.length = m * size) (hnews : ∀ j u, news[j]? = some u → w.cell? (ad.add j) = some u) (h1 : ∀ u ∈ news, u.oneCell' = true)
    (h63 : n + m ≤ maxLen) (hbytes : (n + m) * bytes ≤ 140737488355328)
    (h : ∀ v' w', w'.ownsRow base e size v' (n + m) (xs ++ news) → Below base W w' → base ≤ w'.heap.size → K (a.put o.dst v') w') :
    if Region.wanted o (yielded ops a.tmps) = true then Oper.wp P o a w K Q else E := by
  rw [if_pos (by simp [Region.wanted, hgd])]
  exact wp_app s x t ho base e ht hinfo hzs hsz hs hown hb hB ad m c news hx hl hnews h1 h63 hbytes h
end

/-- The cells of a block that has just been laid. -/
theorem cells_new (w : World) (cs : Array Value) (t : TypeId) : ∀ (j : Nat) (u : Value), cs.toList[j]? = some u → (w.alloc (.cells cs t)).cell? ((⟨w.heap.size, 0, none⟩ : Addr).add j) = some u := by
  intro j u hu
  rw [Addr.add_lit, Nat.zero_add, World.cell?_alloc_mark]
  simpa using hu
theorem cells_newD (w : World) (cs : Array Value) (t : TypeId) : ∀ (j : Nat) (u : Value), cs.toList[j]? = some u → ((w.alloc (.cells cs t)).drew).cell? ((⟨w.heap.size, 0, none⟩ : Addr).add j) = some u := cells_new w cs t
theorem one_u8 (a : Int) : ∀ u ∈ #[Value.int .u8 a].toList, u.oneCell' = true := by
  intro u hu; simp at hu; subst hu; rfl
theorem ones_u8 (a b : Int) : ∀ u ∈ #[Value.int .u8 a, Value.int .u8 b].toList, u.oneCell' = true := by
  intro u hu; simp at hu; rcases hu with rfl | rfl <;> rfl
theorem below_drewN {B : Nat} {a w : World} (h : Below B a w) (n : Nat) : Below B a (w.drewN n) := ⟨h.os, h.tape, h.output, h.size, h.block⟩
theorem own_drewN {w : World} {base e size n : Nat} {v : Value} {xs : List Value} (h : w.ownsRow base e size v n xs) (k : Nat) : (w.drewN k).ownsRow base e size v n xs := h
theorem ret_eq {v v' : Value} (h : v = v') : Ending.returned v = Ending.returned v' := by rw [h]
/-- '[]T{}' owns nothing. -/
theorem own_empty (w : World) (e : TypeId) (size : Nat) : (w.alloc (.cells #[] e)).ownsRow w.heap.size e size (.slice (some ⟨w.heap.size, 0, none⟩) 0 0) 0 [] :=
  World.ownsRow_made w #[] 0 (Nat.le_refl _) (Nat.zero_le _) (by simp)
/-- 'string(b)' of a row of the call's own. -/
theorem run_string_own {P : Program} {w : World} (src dst e : TypeId) (hs : P.underlying src = some (.slice e)) (he : P.underlying e = some (.int .u8)) (hd : P.underlying dst = some .string)
    {base n : Nat} {v : Value} {l : List UInt8} (hown : w.ownsRow base e 1 v n (l.map bv)) : (convert src dst v).run P w = .ok (.string (str l)) w := by
  obtain ⟨hlen, h | ⟨g, cap, cur, rfl, h1, h2, h3, h4, h5, h6⟩⟩ := hown
  · obtain ⟨rfl, rfl⟩ := h
    have hl : l = [] := by simpa using hlen
    subst hl
    rw [run_convert_bytes_string w src dst e none 0 0 hs he hd]
    simp [Conv.bytesToString, Sem.run_pure, str]
    rfl
  · have hn : n = l.length := by simpa using hlen.symm
    subst hn
    refine run_convert_bytes_back w src dst e ⟨g, 0, none⟩ cap l hs he hd (fun j hj => ?_)
    have hc := World.ownsRow.cellAt (w := w) (base := base) (e := e) (size := 1) (g := g) (n := l.length) (cap := cap) (xs := l.map bv) ⟨hlen, .inr ⟨g, cap, cur, rfl, h1, h2, h3, h4, h5, h6⟩⟩ j (by omega)
    rw [Addr.add_lit, Nat.zero_add, hc]
    simp [hj, bv]
theorem infoU8 : (Tryd.prog.info? 5).map (fun i => (i.zero, i.size, i.bytes)) = some (some (.int .u8 0), 1, 1) := by kernel_rfl
theorem own_lit1 {base : Nat} (w : World) (e : TypeId) (u : Value) (h : base ≤ w.heap.size) : (w.alloc (.cells #[u] e)).ownsRow base e 1 (.slice (some ⟨w.heap.size, 0, none⟩) 1 1) 1 [u] :=
  World.ownsRow_lit w #[u] 1 h (by unfold maxLen; omega) (by simp)
theorem own_below {w w1 : World} {base e size n : Nat} {v : Value} {xs : List Value} (h : w.ownsRow base e size v n xs) (hb : Below w.heap.size w w1) : w1.ownsRow base e size v n xs :=
  h.kept (row := none) ⟨hb.os, hb.tape, hb.output, hb.size, fun k hk _ => hb.block k hk⟩ (by
    rcases h.2 with ⟨rfl, _⟩ | ⟨g, c, cur, rfl, _⟩
    · exact .inl rfl
    · exact .inr (by simp [Value.ownBlock]))
theorem own_empty' {w : World} {base : Nat} (e : TypeId) (size : Nat) (h : base ≤ w.heap.size) : (w.alloc (.cells #[] e)).ownsRow base e size (.slice (some ⟨w.heap.size, 0, none⟩) 0 0) 0 [] :=
  World.ownsRow_made w #[] 0 h (Nat.zero_le _) (by simp)
theorem own_below' {w w1 : World} {base e size n : Nat} {v : Value} {xs : List Value} (h : w.ownsRow base e size v n xs) {B : Nat} (hB : w.heap.size ≤ B) (hb : Below B w w1) : w1.ownsRow base e size v n xs := by
  exact h.kept (row := none) ⟨hb.os, hb.tape, hb.output, hb.size, fun k hk _ => hb.block k (Nat.lt_of_lt_of_le hk hB)⟩ (by
    rcases h.2 with ⟨rfl, _⟩ | ⟨g, c, cur, rfl, _⟩
    · exact .inl rfl
    · exact .inr (by simp [Value.ownBlock]))
/-- A row is a slice. -/
theorem own_slice {w : World} {base e size n : Nat} {v : Value} {xs : List Value} (h : w.ownsRow base e size v n xs) : ∃ A c, v = .slice A n c := by
  rcases h.2 with ⟨rfl, h0⟩ | ⟨g, c, cur, rfl, _⟩
  · exact ⟨none, 0, by rw [h0]⟩
  · exact ⟨_, _, rfl⟩
end Go.Proofs.YtbflkcldjjpioaaDoor

/-
  Values as trees, plainly; how a tree lies in memory; how an argument is read as one.
-/
namespace Go.Proofs.YtbflkcldjjpioaaDoor
open Go.RowKit Go.ChangeShapes Go.WideShapes Go.Deep
set_option linter.unusedVariables false

theorem ret_num {k : IntKind} {a b : Int} (h : a = b) : Ending.returned (.int k a) = Ending.returned (.int k b) := by rw [h]
theorem ret_bool {a b : Bool} (h : a = b) : Ending.returned (.bool a) = Ending.returned (.bool b) := by rw [h]
/-- Block g holds just these cells, none frozen. -/
def Blk (w : World) (g : Nat) (t : TypeId) (cs : Array Value) : Prop := w.heap[g]? = some (.cells cs t (0, 0))
theorem Blk.new (w : World) (t : TypeId) (cs : Array Value) : Blk (w.alloc (.cells cs t)) w.heap.size t cs := heap_alloc_new w _
theorem Blk.lt {w : World} {g : Nat} {t : TypeId} {cs : Array Value} (h : Blk w g t cs) : g < w.heap.size := by
  rcases Nat.lt_or_ge g w.heap.size with hlt | hge
  · exact hlt
  · unfold Blk at h; rw [Array.getElem?_eq_none hge] at h; cases h
theorem Blk.alloc {w : World} {g : Nat} {t : TypeId} {cs : Array Value} (h : Blk w g t cs) (o : Obj) : Blk (w.alloc o) g t cs := (Below.heap_alloc w o g h.lt).trans h
theorem Blk.below {w w' : World} {B g : Nat} {t : TypeId} {cs : Array Value} (h : Blk w g t cs) (hb : Below B w w') (hg : g < B) : Blk w' g t cs := (hb.block g hg).trans h
theorem Blk.cell {w : World} {g : Nat} {t : TypeId} {cs : Array Value} (h : Blk w g t cs) (i : Nat) : w.cell? ⟨g, i, none⟩ = cs[i]? := cell_of_row w g i cs t (0, 0) h
theorem Blk.frozen {w : World} {g : Nat} {t : TypeId} {cs : Array Value} (h : Blk w g t cs) (i : Nat) : w.frozen? ⟨g, i, none⟩ = false := by
  unfold Blk at h
  simp [World.frozen?, h]
inductive V where
  | mk (k n e : Int) (s : ByteArray) (kids : List V)
def V.k : V → Int | .mk k _ _ _ _ => k
def V.n : V → Int | .mk _ n _ _ _ => n
def V.e : V → Int | .mk _ _ e _ _ => e
def V.s : V → ByteArray | .mk _ _ _ s _ => s
def V.kids : V → List V | .mk _ _ _ _ ks => ks
theorem V.eta (v : V) : v = .mk v.k v.n v.e v.s v.kids := by cases v; rfl

/-- The five cells of a value; its kids' slice is A, with room for cap. -/
def V.agg (v : V) (A : Option Addr) (cap : Nat) : Value := .agg #[.int .i64 v.k, .int .i64 v.n, .int .i64 v.e, .string v.s, .slice A v.kids.length cap]
def CellsAt (w : World) (b off : Nat) (v : V) (A : Option Addr) (cap : Nat) : Prop :=
  w.cell? ⟨b, off, none⟩ = some (.int .i64 v.k) ∧ w.cell? ⟨b, off + 1, none⟩ = some (.int .i64 v.n) ∧ w.cell? ⟨b, off + 2, none⟩ = some (.int .i64 v.e) ∧
  w.cell? ⟨b, off + 3, none⟩ = some (.string v.s) ∧ w.cell? ⟨b, off + 4, none⟩ = some (.slice A v.kids.length cap)

mutual
/-- The kids of a value lie at A, in blocks from lo to hi. -/
def V.at_ (w : World) (lo hi : Nat) : V → Option Addr → Prop
  | .mk _ _ _ _ ks, A => Vs.at_ w lo hi ks A
def Vs.at_ (w : World) (lo hi : Nat) : List V → Option Addr → Prop
  | [], _ => True
  | v :: r, A => (∃ b off A' cap, A = some ⟨b, off, none⟩ ∧ lo ≤ b ∧ b < hi ∧ v.kids.length ≤ cap ∧ CellsAt w b off v A' cap ∧ V.at_ w lo hi v A' ∧ Vs.at_ w lo hi r (some ⟨b, off + 5, none⟩))
end

theorem V.at_kids {w : World} {lo hi : Nat} {v : V} {A : Option Addr} : V.at_ w lo hi v A ↔ Vs.at_ w lo hi v.kids A := by
  cases v; simp [V.at_, V.kids]

mutual
theorem V.at_keep {w w' : World} {lo hi : Nat} (hk : ∀ p : Addr, lo ≤ p.block → p.block < hi → w'.cell? p = w.cell? p) : ∀ (v : V) (A : Option Addr), V.at_ w lo hi v A → V.at_ w' lo hi v A
  | .mk _ _ _ _ ks, A, h => by
    simp only [V.at_] at h ⊢
    exact Vs.at_keep hk ks A h
theorem Vs.at_keep {w w' : World} {lo hi : Nat} (hk : ∀ p : Addr, lo ≤ p.block → p.block < hi → w'.cell? p = w.cell? p) : ∀ (l : List V) (A : Option Addr), Vs.at_ w lo hi l A → Vs.at_ w' lo hi l A
  | [], A, _ => by simp only [Vs.at_]
  | v :: r, A, h => by
    simp only [Vs.at_] at h ⊢
    obtain ⟨b, off, A', cap, rfl, h1, h2, h3, ⟨c0, c1, c2, c3, c4⟩, h5, h6⟩ := h
    have k := fun j => hk ⟨b, j, none⟩ h1 h2
    exact ⟨b, off, A', cap, rfl, h1, h2, h3, ⟨(k _).trans c0, (k _).trans c1, (k _).trans c2, (k _).trans c3, (k _).trans c4⟩, V.at_keep hk v A' h5, Vs.at_keep hk r _ h6⟩
end
mutual
theorem V.at_more {w : World} {lo hi lo' hi' : Nat} (h1 : lo' ≤ lo) (h2 : hi ≤ hi') : ∀ (v : V) (A : Option Addr), V.at_ w lo hi v A → V.at_ w lo' hi' v A
  | .mk _ _ _ _ ks, A, h => by
    simp only [V.at_] at h ⊢
    exact Vs.at_more h1 h2 ks A h
theorem Vs.at_more {w : World} {lo hi lo' hi' : Nat} (h1 : lo' ≤ lo) (h2 : hi ≤ hi') : ∀ (l : List V) (A : Option Addr), Vs.at_ w lo hi l A → Vs.at_ w lo' hi' l A
  | [], A, _ => by simp only [Vs.at_]
  | v :: r, A, h => by
    simp only [Vs.at_] at h ⊢
    obtain ⟨b, off, A', cap, rfl, g1, g2, h3, h4, h5, h6⟩ := h
    exact ⟨b, off, A', cap, rfl, Nat.le_trans h1 g1, Nat.lt_of_lt_of_le g2 h2, h3, h4, V.at_more h1 h2 v A' h5, Vs.at_more h1 h2 r _ h6⟩
end
theorem Vs.at_below {w w' : World} {lo hi B : Nat} {l : List V} {A : Option Addr} (h : Vs.at_ w lo hi l A) (hb : Below B w w') (hB : hi ≤ B) : Vs.at_ w' lo hi l A :=
  Vs.at_keep (fun _ _ hp => hb.cell (Nat.lt_of_lt_of_le hp hB)) l A h
/-- Kids are where they were, behind a new block. -/
theorem Vs.at_alloc {w : World} {lo hi : Nat} {l : List V} {A : Option Addr} (h : Vs.at_ w lo hi l A) (hh : hi ≤ w.heap.size) (o : Obj) : Vs.at_ (w.alloc o) lo hi l A :=
  Vs.at_keep (fun p _ hp => World.cell?_alloc_lt _ _ _ (by omega)) _ _ h
theorem Vs.at_drew {w : World} {lo hi : Nat} {l : List V} {A : Option Addr} (h : Vs.at_ w lo hi l A) : Vs.at_ w.drew lo hi l A :=
  Vs.at_keep (w := w) (w' := w.drew) (fun p _ _ => rfl) _ _ h
theorem Vs.at_set {w : World} {lo hi : Nat} {l : List V} {A : Option Addr} {p : Addr} {u : Value} (h : Vs.at_ w lo hi l A) (hp : p.block < lo ∨ hi ≤ p.block) : Vs.at_ (w.setCell p u) lo hi l A :=
  Vs.at_keep (fun q h1 h2 => World.cell?_setCell_other w p q u (fun e => by subst e; omega)) l A h
/-- Element i of a slice of values. -/
theorem Vs.at_get {w : World} {lo hi : Nat} : ∀ {l : List V} {A : Option Addr} (i : Nat) (hi' : i < l.length), Vs.at_ w lo hi l A →
    ∃ b off A' cap, A = some ⟨b, off, none⟩ ∧ lo ≤ b ∧ b < hi ∧ (l[i]).kids.length ≤ cap ∧ CellsAt w b (off + i * 5) l[i] A' cap ∧ Vs.at_ w lo hi (l[i]).kids A'
  | v :: r, A, 0, _, h => by
    simp only [Vs.at_] at h
    obtain ⟨b, off, A', cap, rfl, h1, h2, h3, h4, h5, h6⟩ := h
    exact ⟨b, off, A', cap, rfl, h1, h2, h3, by simpa using h4, V.at_kids.1 h5⟩
  | v :: r, A, i + 1, hi', h => by
    simp only [Vs.at_] at h
    obtain ⟨b, off, A', cap, rfl, h1, h2, h3, h4, h5, h6⟩ := h
    obtain ⟨b', off', A'', cap', e, g1, g2, g3, g4, g5⟩ := Vs.at_get i (by simpa using hi') h6
    injection e with e
    injection e with e1 e2
    subst e1 e2
    refine ⟨b, off, A'', cap', rfl, g1, g2, by simpa using g3, ?_, by simpa using g5⟩
    have : off + 5 + i * 5 = off + (i + 1) * 5 := by omega
    rw [this] at g4
    simpa using g4

mutual
/-- How many values there are in a value. -/
def V.nodes : V → Nat
  | .mk _ _ _ _ ks => Vs.nodes ks + 1
def Vs.nodes : List V → Nat
  | [] => 0
  | v :: r => v.nodes + Vs.nodes r
end
mutual
/-- What the laws' own measure takes off: letters, and one for each kid. -/
def V.weight : V → Nat
  | .mk _ _ _ s ks => s.size + Vs.weight ks
def Vs.weight : List V → Nat
  | [] => 0
  | v :: r => v.weight + 1 + Vs.weight r
end
/-- A number of 64 bits. -/
def inI (x : Int) : Prop := -9223372036854775808 ≤ x ∧ x ≤ 9223372036854775807
mutual
/-- Every length is one that Go can count, every number one of 64 bits. -/
def V.fits : V → Prop
  | .mk k n e s ks => s.size ≤ 9223372036854775807 ∧ ks.length ≤ 9223372036854775807 ∧ Vs.fits ks ∧ inI k ∧ inI n ∧ inI e
def Vs.fits : List V → Prop
  | [] => True
  | v :: r => v.fits ∧ Vs.fits r
end
theorem V.nodes_eq (v : V) : v.nodes = Vs.nodes v.kids + 1 := by cases v; simp [V.nodes, V.kids]
theorem V.weight_eq (v : V) : v.weight = v.s.size + Vs.weight v.kids := by cases v; simp [V.weight, V.kids, V.s]
theorem V.fits_eq (v : V) : v.fits ↔ v.s.size ≤ 9223372036854775807 ∧ v.kids.length ≤ 9223372036854775807 ∧ Vs.fits v.kids ∧ inI v.k ∧ inI v.n ∧ inI v.e := by cases v; simp [V.fits, V.kids, V.s, V.k, V.n, V.e]
theorem Vs.fits_get : ∀ {l : List V} (i : Nat) (h : i < l.length), Vs.fits l → (l[i]).fits
  | v :: r, 0, _, h => by simp only [Vs.fits] at h; exact h.1
  | v :: r, i + 1, hi, h => by simp only [Vs.fits] at h; exact Vs.fits_get i (by simpa using hi) h.2
theorem Vs.nodes_get : ∀ {l : List V} (i : Nat) (h : i < l.length), (l[i]).nodes ≤ Vs.nodes l
  | v :: r, 0, _ => by simp only [Vs.nodes, List.getElem_cons_zero]; omega
  | v :: r, i + 1, hi => by
    have := Vs.nodes_get (l := r) i (by simpa using hi)
    simp only [Vs.nodes, List.getElem_cons_succ]; omega
theorem V.nodes_pos (v : V) : 1 ≤ v.nodes := by rw [V.nodes_eq]; omega
theorem Vs.weight_snoc (l : List V) (v : V) : Vs.weight (l ++ [v]) = Vs.weight l + v.weight + 1 := by
  induction l with
  | nil => simp [Vs.weight]
  | cons a l ih => simp only [List.cons_append, Vs.weight, ih]; omega
theorem Vs.weight_take (l : List V) : ∀ i, Vs.weight (l.take i) + Vs.weight (l.drop i) = Vs.weight l := by
  induction l with
  | nil => intro i; simp [Vs.weight]
  | cons a l ih =>
    intro i
    cases i with
    | zero => simp [Vs.weight]
    | succ i => simp only [List.take_succ_cons, List.drop_succ_cons, Vs.weight]; have := ih i; omega
theorem Vs.weight_step (l : List V) (i : Nat) (h : i < l.length) : Vs.weight (l.take (i + 1)) = Vs.weight (l.take i) + (l[i]).weight + 1 := by
  rw [List.take_succ_eq_append_getElem h, Vs.weight_snoc]
theorem Vs.len_le (l : List V) : l.length ≤ Vs.weight l := by
  induction l with
  | nil => simp
  | cons a l ih => simp only [List.length_cons, Vs.weight]; omega
theorem Vs.weight_len (l : List V) (i : Nat) : Vs.weight (l.take i) + (l.length - i) ≤ Vs.weight l := by
  have h1 := Vs.weight_take l i
  have h2 := Vs.len_le (l.drop i)
  rw [List.length_drop] at h2
  omega
theorem Vs.len_nodes (l : List V) : l.length ≤ Vs.nodes l := by
  induction l with
  | nil => simp
  | cons a l ih => simp only [List.length_cons, Vs.nodes]; have := V.nodes_pos a; omega
/-- What is left of a measure, -1 if it doesn't suffice. -/
def szR (L : Int) (W : Nat) : Int := if (W : Int) ≤ L then L - W else -1

/-- A slice of values, out of its elements. -/
theorem Vs.at_of {w : World} {lo hi b : Nat} (h1 : lo ≤ b) (h2 : b < hi) : ∀ (l : List V) (off : Nat),
    (∀ i (h : i < l.length), ∃ A' cap, (l[i]).kids.length ≤ cap ∧ CellsAt w b (off + i * 5) l[i] A' cap ∧ Vs.at_ w lo hi (l[i]).kids A') → Vs.at_ w lo hi l (some ⟨b, off, none⟩)
  | [], _, _ => by simp only [Vs.at_]
  | v :: r, off, h => by
    simp only [Vs.at_]
    obtain ⟨A', cap, k1, k2, k3⟩ := h 0 (by simp)
    refine ⟨b, off, A', cap, rfl, h1, h2, by simpa using k1, by simpa using k2, V.at_kids.2 (by simpa using k3), Vs.at_of h1 h2 r (off + 5) fun i hi => ?_⟩
    obtain ⟨A', cap, k1, k2, k3⟩ := h (i + 1) (by simpa using hi)
    refine ⟨A', cap, by simpa using k1, ?_, by simpa using k3⟩
    rw [show off + 5 + i * 5 = off + (i + 1) * 5 by omega]
    simpa using k2
/-- A value stored into five cells. -/
def put5 (w : World) (G o : Nat) (v : V) (A : Option Addr) (c : Nat) : World :=
  ((((w.setCell ⟨G, o, none⟩ (.int .i64 v.k)).setCell ⟨G, o + 1, none⟩ (.int .i64 v.n)).setCell ⟨G, o + 2, none⟩ (.int .i64 v.e)).setCell ⟨G, o + 3, none⟩ (.string v.s)).setCell ⟨G, o + 4, none⟩ (.slice A v.kids.length c)
theorem addr_ne {G q : Nat} {p : Addr} (h : p.block ≠ G ∨ p.off ≠ q) : (⟨G, q, none⟩ : Addr) ≠ p := by
  rintro rfl
  rcases h with h | h <;> exact h rfl
theorem put5_other {w : World} {G o : Nat} {v : V} {A : Option Addr} {c : Nat} {p : Addr} (h : p.block ≠ G ∨ p.off < o ∨ o + 5 ≤ p.off) : (put5 w G o v A c).cell? p = w.cell? p := by
  unfold put5
  rw [World.cell?_setCell_other _ _ _ _ (addr_ne (G := G) (q := o + 4) (by omega)), World.cell?_setCell_other _ _ _ _ (addr_ne (G := G) (q := o + 3) (by omega)), World.cell?_setCell_other _ _ _ _ (addr_ne (G := G) (q := o + 2) (by omega)), World.cell?_setCell_other _ _ _ _ (addr_ne (G := G) (q := o + 1) (by omega)), World.cell?_setCell_other _ _ _ _ (addr_ne (G := G) (q := o) (by omega))]
theorem put5_at {w : World} {G o : Nat} {v : V} {A : Option Addr} {c : Nat} {u0 u1 u2 u3 u4 : Value} (h0 : w.cell? ⟨G, o, none⟩ = some u0) (h1 : w.cell? ⟨G, o + 1, none⟩ = some u1) (h2 : w.cell? ⟨G, o + 2, none⟩ = some u2)
    (h3 : w.cell? ⟨G, o + 3, none⟩ = some u3) (h4 : w.cell? ⟨G, o + 4, none⟩ = some u4) : CellsAt (put5 w G o v A c) G o v A c := by
  have ne : ∀ {a b : Nat}, a ≠ b → (⟨G, a, none⟩ : Addr) ≠ ⟨G, b, none⟩ := fun h e => h (by injection e)
  unfold put5
  refine ⟨?_, ?_, ?_, ?_, ?_⟩
  · rw [World.cell?_setCell_other _ _ _ _ (ne (by omega)), World.cell?_setCell_other _ _ _ _ (ne (by omega)), World.cell?_setCell_other _ _ _ _ (ne (by omega)), World.cell?_setCell_other _ _ _ _ (ne (by omega))]
    exact World.cell?_setCell_same _ _ _ h0
  · rw [World.cell?_setCell_other _ _ _ _ (ne (by omega)), World.cell?_setCell_other _ _ _ _ (ne (by omega)), World.cell?_setCell_other _ _ _ _ (ne (by omega))]
    exact World.cell?_setCell_same _ _ _ ((World.cell?_setCell_other _ _ _ _ (ne (by omega))).trans h1)
  · rw [World.cell?_setCell_other _ _ _ _ (ne (by omega)), World.cell?_setCell_other _ _ _ _ (ne (by omega))]
    exact World.cell?_setCell_same _ _ _ ((World.cell?_setCell_other _ _ _ _ (ne (by omega))).trans ((World.cell?_setCell_other _ _ _ _ (ne (by omega))).trans h2))
  · rw [World.cell?_setCell_other _ _ _ _ (ne (by omega))]
    exact World.cell?_setCell_same _ _ _ ((World.cell?_setCell_other _ _ _ _ (ne (by omega))).trans ((World.cell?_setCell_other _ _ _ _ (ne (by omega))).trans ((World.cell?_setCell_other _ _ _ _ (ne (by omega))).trans h3)))
  · exact World.cell?_setCell_same _ _ _ ((World.cell?_setCell_other _ _ _ _ (ne (by omega))).trans ((World.cell?_setCell_other _ _ _ _ (ne (by omega))).trans ((World.cell?_setCell_other _ _ _ _ (ne (by omega))).trans ((World.cell?_setCell_other _ _ _ _ (ne (by omega))).trans h4))))
theorem put5_size (w : World) (G o : Nat) (v : V) (A : Option Addr) (c : Nat) : (put5 w G o v A c).heap.size = w.heap.size := by simp [put5]
theorem put5_own {w : World} {G o base n cap : Nat} {e : TypeId} {v : V} {A : Option Addr} {c : Nat} {xs : List Value} (h : w.ownsRow base e 5 (.slice (some ⟨G, 0, none⟩) n cap) n xs) : ∃ xs', (put5 w G o v A c).ownsRow base e 5 (.slice (some ⟨G, 0, none⟩) n cap) n xs' :=
  ⟨_, ((((((h.stored o _).1.stored (o + 1) _).1.stored (o + 2) _).1.stored (o + 3) _).1.stored (o + 4) _).1)⟩
theorem put5_below {a w : World} {B G o : Nat} {v : V} {A : Option Addr} {c : Nat} (h : Below B a w) (hG : B ≤ G) : Below B a (put5 w G o v A c) :=
  ((((h.setCell (p := ⟨G, o, none⟩) hG _).setCell (p := ⟨G, o + 1, none⟩) hG _).setCell (p := ⟨G, o + 2, none⟩) hG _).setCell (p := ⟨G, o + 3, none⟩) hG _).setCell (p := ⟨G, o + 4, none⟩) hG _
theorem CellsAt.keep {w w' : World} {b off : Nat} {v : V} {A : Option Addr} {c : Nat} (h : CellsAt w b off v A c) (hk : ∀ q, q < 5 → w'.cell? ⟨b, off + q, none⟩ = w.cell? ⟨b, off + q, none⟩) : CellsAt w' b off v A c :=
  ⟨(hk 0 (by omega)).trans h.1, (hk 1 (by omega)).trans h.2.1, (hk 2 (by omega)).trans h.2.2.1, (hk 3 (by omega)).trans h.2.2.2.1, (hk 4 (by omega)).trans h.2.2.2.2⟩
theorem Blk.five {w : World} {g : Nat} {t : TypeId} {v0 v1 v2 v3 v4 : Value} (h : Blk w g t #[v0, v1, v2, v3, v4]) :
    w.cell? ⟨g, 0, none⟩ = some v0 ∧ w.cell? ⟨g, 1, none⟩ = some v1 ∧ w.cell? ⟨g, 2, none⟩ = some v2 ∧ w.cell? ⟨g, 3, none⟩ = some v3 ∧ w.cell? ⟨g, 4, none⟩ = some v4 :=
  ⟨h.cell 0, h.cell 1, h.cell 2, h.cell 3, h.cell 4⟩
theorem Blk.drew {w : World} {g : Nat} {t : TypeId} {cs : Array Value} (h : Blk w g t cs) : Blk w.drew g t cs := h
mutual
theorem V.nodes_weight : ∀ v : V, v.nodes ≤ v.weight + 1
  | .mk _ _ _ _ ks => by simp only [V.nodes, V.weight]; have := Vs.nodes_weight ks; omega
theorem Vs.nodes_weight : ∀ l : List V, Vs.nodes l ≤ Vs.weight l
  | [] => by simp [Vs.nodes]
  | v :: r => by simp only [Vs.nodes, Vs.weight]; have h1 := V.nodes_weight v; have h2 := Vs.nodes_weight r; omega
end
/-- What holds of every value whose kids it holds of. -/
theorem V.all {P : V → Prop} (h : ∀ v, (∀ i (hi : i < v.kids.length), P v.kids[i]) → P v) : ∀ v, P v := by
  have key : ∀ N (v : V), v.nodes ≤ N → P v := by
    intro N
    induction N with
    | zero => intro v hv; have := V.nodes_pos v; omega
    | succ N ih =>
      intro v hv
      refine h v fun i hi => ih _ ?_
      have h1 := Vs.nodes_get i hi
      rw [V.nodes_eq] at hv
      omega
  exact fun v => key _ v (Nat.le_refl _)
end Go.Proofs.YtbflkcldjjpioaaDoor

/-
  Nodes: how many values there are in a value; a walk over a value, node by node.
-/
namespace Go.Proofs.YtbflkcldjjpioaaDoor
open Go.RowKit
set_option linter.unusedVariables false
set_option maxRecDepth 100000
set_option linter.unusedSimpArgs false

theorem Vs.nodes_snoc (l : List V) (v : V) : Vs.nodes (l ++ [v]) = Vs.nodes l + v.nodes := by
  induction l with
  | nil => simp [Vs.nodes]
  | cons a l ih => simp only [List.cons_append, Vs.nodes, ih]; omega
theorem Vs.nodes_step (l : List V) (i : Nat) (h : i < l.length) : Vs.nodes (l.take (i + 1)) = Vs.nodes (l.take i) + (l[i]).nodes := by
  rw [List.take_succ_eq_append_getElem h, Vs.nodes_snoc]
theorem Vs.nodes_take (l : List V) : ∀ i, Vs.nodes (l.take i) ≤ Vs.nodes l := by
  induction l with
  | nil => intro i; simp
  | cons a l ih =>
    intro i
    cases i with
    | zero => simp [Vs.nodes]
    | succ i => simp only [List.take_succ_cons, Vs.nodes]; have := ih i; omega

def SpecNodesSaid (v : V) : Prop := ∀ (A : Option Addr) (cap : Nat) (w : World), v.nodes ≤ 1048577 → Vs.at_ w 0 w.heap.size v.kids A →
    Calls Tryd.prog 61 #[v.agg A cap] w fun e w' => e = .returned (.int .i64 v.nodes) ∧ Below w.heap.size w w'

set_option maxHeartbeats 1000000 in
theorem specNodes_step (v : V) (hk : ∀ i (h : i < v.kids.length), SpecNodesSaid v.kids[i]) : SpecNodesSaid v := by
  intro A cap w hn hat
  have HD := Lib.hid (V.nodes_eq v)
  rw [V.nodes_eq] at hn
  have hl : v.kids.length ≤ 1048576 := by have := Vs.len_nodes v.kids; omega
  have HK := fun (i : Nat) (h : i < v.kids.length) (A' : Option Addr) (c : Nat) (w' : World) (h1 : Vs.at_ w' 0 w'.heap.size (v.kids[i]).kids A') => hk i h A' c w' (by have := Vs.nodes_get i h; omega) h1
  have HC := Lib.hid HK
  clear HK hk
  have HA := Lib.hid hat
  clear hat
  unfold V.agg
  go_enter Tryd.func61, Tryd.ntmps61
  go_wp2_with fail
  go_loopw [3, 4] (fun d i wr => ∃ j : Nat, j ≤ v.kids.length ∧ i = .int .i64 j ∧ d = .int .i64 ((Vs.nodes (v.kids.take j) : Int) + 1) ∧ Blk wr w.heap.size 34 #[.int .i64 v.k, .int .i64 v.n, .int .i64 v.e, .string v.s, .slice A v.kids.length cap] ∧ Below w.heap.size w wr) (fun _ i _ => v.kids.length - (intOf i).toNat)
  case atStart => exact ⟨0, Nat.zero_le _, rfl, rfl, Blk.new _ _ _, (Below.refl _ _).alloc (Nat.le_refl _) _⟩
  case round =>
    obtain ⟨j, hj, rfl, rfl, B, hb⟩ := hrel
    have b4 : wr.cell? ⟨w.heap.size, 4, none⟩ = some (.slice A v.kids.length cap) := B.cell 4
    by_cases hlt : j < v.kids.length
    · have hst := Vs.nodes_step v.kids j hlt
      have hd4 := Vs.nodes_take v.kids j
      have hd5 := Vs.nodes_get j hlt
      have HST := Lib.hid hst
      clear hst
      obtain ⟨b, off, A', cap', rfl, g1, g2, g3, ⟨c0, c1, c2, c3, c4⟩, g5⟩ := Vs.at_get j hlt (Vs.at_below HA.out hb (Nat.le_refl _))
      go_wp2_with fail
      refine (HC.out j hlt A' cap' _ (Vs.at_more (Nat.le_refl _) hb.size _ _ g5)).mono ?_
      rintro e w1 ⟨rfl, hb1⟩
      have hbw : Below w.heap.size w w1 := hb.trans (hb1.mono hb.size)
      have B' := B.below hb1 B.lt
      clear c0 c1 c2 c3 c4 b4
      go_wp2_with fail
      go_roundw
      case rel => exact ⟨j + 1, by omega, by go_num, by rw [HST.out]; go_num, B', hbw⟩
      case measure => simp [intOf]; omega
    · obtain rfl : j = v.kids.length := by omega
      go_wp2_with fail
      go_ret
      exact ⟨ret_num (by rw [HD.out, List.take_length]; omega), hb⟩
theorem specNodes : ∀ v, SpecNodesSaid v := V.all specNodes_step
end Go.Proofs.YtbflkcldjjpioaaDoor

/-
  A text made of bytes that are written out.
-/
namespace Go.Proofs.YtbflkcldjjpioaaDoor
open Go.RowKit
set_option linter.unusedVariables false

/-- A number as a byte. -/
def byteI (x : Int) : UInt8 := UInt8.ofNat x.toNat
/-- 'string([]byte{..})' -/
theorem run_string_lit {P : Program} (src dst e : TypeId) (hs : P.underlying src = some (.slice e)) (he : P.underlying e = some (.int .u8)) (hd : P.underlying dst = some .string) (ns : List Int) (c : Nat) (w : World) :
    (convert src dst (.slice (some ⟨w.heap.size, 0, none⟩) ns.length c)).run P (w.alloc (.cells (ns.map (Value.int .u8)).toArray e)) = .ok (.string (str (ns.map fun n => UInt8.ofNat n.toNat))) (w.alloc (.cells (ns.map (Value.int .u8)).toArray e)) := by
  rw [run_convert_bytes_string _ src dst e _ _ _ hs he hd]
  have hl := run_loadCells_list (P := P) (w.alloc (.cells (ns.map (Value.int .u8)).toArray e)) ⟨w.heap.size, 0, none⟩ (ns.map (Value.int .u8)) (fun j v hj => by
    have := cells_new w (ns.map (Value.int .u8)).toArray e j v (by simpa using hj)
    simpa using this)
  simp only [List.length_map] at hl
  rw [run_bytesToString _ _ _ c ns hl]
  congr 2
  have hf : ∀ (l : List Int) (r : ByteArray), l.foldl (fun r n => r.push (UInt8.ofNat n.toNat)) r = ⟨r.data ++ (l.map fun n => UInt8.ofNat n.toNat).toArray⟩ := by
    intro l
    induction l with
    | nil => intro r; simp
    | cons n l ih => intro r; rw [List.foldl_cons, ih]; simp [ByteArray.push]
  rw [hf]
  simp [str]
theorem lit1 {P : Program} (src dst e : TypeId) (hs : P.underlying src = some (.slice e)) (he : P.underlying e = some (.int .u8)) (hd : P.underlying dst = some .string) : ∀ (w : World) (a : Int),
    (convert src dst (.slice (some ⟨w.heap.size, 0, none⟩) 1 1)).run P (w.alloc (.cells #[.int .u8 a] e)) = .ok (.string (str [byteI a])) (w.alloc (.cells #[.int .u8 a] e)) := fun w a => run_string_lit src dst e hs he hd [a] 1 w
theorem lit2 {P : Program} (src dst e : TypeId) (hs : P.underlying src = some (.slice e)) (he : P.underlying e = some (.int .u8)) (hd : P.underlying dst = some .string) : ∀ (w : World) (a b : Int),
    (convert src dst (.slice (some ⟨w.heap.size, 0, none⟩) 2 2)).run P (w.alloc (.cells #[.int .u8 a, .int .u8 b] e)) = .ok (.string (str [byteI a, byteI b])) (w.alloc (.cells #[.int .u8 a, .int .u8 b] e)) := fun w a b => run_string_lit src dst e hs he hd [a, b] 2 w
theorem lit3 {P : Program} (src dst e : TypeId) (hs : P.underlying src = some (.slice e)) (he : P.underlying e = some (.int .u8)) (hd : P.underlying dst = some .string) : ∀ (w : World) (a b c : Int),
    (convert src dst (.slice (some ⟨w.heap.size, 0, none⟩) 3 3)).run P (w.alloc (.cells #[.int .u8 a, .int .u8 b, .int .u8 c] e)) = .ok (.string (str [byteI a, byteI b, byteI c])) (w.alloc (.cells #[.int .u8 a, .int .u8 b, .int .u8 c] e)) := fun w a b c => run_string_lit src dst e hs he hd [a, b, c] 3 w
theorem lit4 {P : Program} (src dst e : TypeId) (hs : P.underlying src = some (.slice e)) (he : P.underlying e = some (.int .u8)) (hd : P.underlying dst = some .string) : ∀ (w : World) (a b c d : Int),
    (convert src dst (.slice (some ⟨w.heap.size, 0, none⟩) 4 4)).run P (w.alloc (.cells #[.int .u8 a, .int .u8 b, .int .u8 c, .int .u8 d] e)) = .ok (.string (str [byteI a, byteI b, byteI c, byteI d])) (w.alloc (.cells #[.int .u8 a, .int .u8 b, .int .u8 c, .int .u8 d] e)) := fun w a b c d => run_string_lit src dst e hs he hd [a, b, c, d] 4 w
theorem str_len (l : List UInt8) : (str l).size = l.length := by simp [str, ByteArray.size]
end Go.Proofs.YtbflkcldjjpioaaDoor

/-
  The bytes of a code point, plainly.
-/
namespace Go.Proofs.YtbflkcldjjpioaaDoor
open Go.RowKit
set_option linter.unusedVariables false

/-- A number is a code point. -/
def isSg (n : Int) : Bool := decide ((0 ≤ n ∧ n < 55296) ∨ (57343 < n ∧ n ≤ 1114111))
/-- What PutSign hands back. -/
def signB (n : Int) : ByteArray := if isSg n then Utf8.encode n else ⟨#[]⟩

theorem ofInt_i64 (a : Nat) (ha : a < 9223372036854775808) : (BitVec.ofInt 64 (a : Int)).toNat = a := by
  rw [BitVec.ofInt_natCast, BitVec.toNat_ofNat]; omega
theorem and63 (n : Nat) (h : n < 9223372036854775808) : bits .and .i64 (n : Int) 63 = ((n % 64 : Nat) : Int) := by
  have h1 := ofInt_i64 n h
  have h2 := ofInt_i64 63 (by omega)
  show IntKind.i64.wrap ((BitVec.ofInt 64 (n : Int) &&& BitVec.ofInt 64 ((63 : Nat) : Int)).toNat : Int) = _
  rw [BitVec.toNat_and, h1, h2, Nat.and_two_pow_sub_one_eq_mod n 6, IntKind.wrap_i64]
  omega
theorem and63d (n d : Nat) (h : n < 9223372036854775808) : bits .and .i64 ((n : Int) / (d : Int)) 63 = ((n / d % 64 : Nat) : Int) := by
  have : n / d ≤ n := Nat.div_le_self _ _
  rw [show (n : Int) / (d : Int) = ((n / d : Nat) : Int) by simp]
  exact and63 _ (by omega)

theorem valid_of (n : Nat) (h : n < 55296 ∨ (57343 < n ∧ n < 1114112)) : Utf8.valid (n : Int) = true := by
  unfold Utf8.valid; simp; omega
theorem enc1 (n : Nat) (h : n < 128) : str [byteI n] = Utf8.encode (n : Int) := by
  have hv := valid_of n (by omega)
  unfold Utf8.encode byteI
  simp only [hv, if_true, Int.toNat_natCast]
  rw [if_pos h]
  rfl
theorem enc2 (n : Nat) (h : 128 ≤ n ∧ n < 2048) : str [byteI (192 + (n : Int) / 64), byteI (128 + (n : Int) % 64)] = Utf8.encode (n : Int) := by
  have hv := valid_of n (by omega)
  unfold Utf8.encode byteI
  simp only [hv, if_true, Int.toNat_natCast]
  rw [if_neg (by omega), if_pos (by omega), show (192 + (n : Int) / 64).toNat = 192 + n / 64 by omega, show (128 + (n : Int) % 64).toNat = 128 + n % 64 by omega]
  rfl
theorem enc3 (n : Nat) (h : (2048 ≤ n ∧ n < 55296) ∨ (57343 < n ∧ n < 65536)) : str [byteI (224 + (n : Int) / 4096), byteI (128 + (n : Int) / 64 % 64), byteI (128 + (n : Int) % 64)] = Utf8.encode (n : Int) := by
  have hv := valid_of n (by omega)
  unfold Utf8.encode byteI
  simp only [hv, if_true, Int.toNat_natCast]
  rw [if_neg (by omega), if_neg (by omega), if_pos (by omega), show (224 + (n : Int) / 4096).toNat = 224 + n / 4096 by omega, show (128 + (n : Int) % 64).toNat = 128 + n % 64 by omega, show (128 + (n : Int) / 64 % 64).toNat = 128 + n / 64 % 64 by omega]
  rfl
theorem enc4 (n : Nat) (h : 65536 ≤ n ∧ n < 1114112) : str [byteI (240 + (n : Int) / 262144), byteI (128 + (n : Int) / 4096 % 64), byteI (128 + (n : Int) / 64 % 64), byteI (128 + (n : Int) % 64)] = Utf8.encode (n : Int) := by
  have hv := valid_of n (by omega)
  unfold Utf8.encode byteI
  simp only [hv, if_true, Int.toNat_natCast]
  rw [if_neg (by omega), if_neg (by omega), if_neg (by omega), show (240 + (n : Int) / 262144).toNat = 240 + n / 262144 by omega, show (128 + (n : Int) / 4096 % 64).toNat = 128 + n / 4096 % 64 by omega, show (128 + (n : Int) % 64).toNat = 128 + n % 64 by omega, show (128 + (n : Int) / 64 % 64).toNat = 128 + n / 64 % 64 by omega]
  rfl
end Go.Proofs.YtbflkcldjjpioaaDoor

/-
  A piece of a text; plain.
-/
namespace Go.Proofs.YtbflkcldjjpioaaDoor
open Go.RowKit

/-- The first bytes of a piece. -/
def piece (s : ByteArray) (i n : Nat) : List UInt8 := (s.data.toList.drop i).take n
theorem piece_succ (s : ByteArray) (i n : Nat) (h : i + n < s.size) : piece s i (n + 1) = piece s i n ++ [s[i + n]] := by
  have hl : n < (s.data.toList.drop i).length := by simp; have : s.data.size = s.size := rfl; omega
  unfold piece
  rw [List.take_succ_eq_append_getElem hl, List.getElem_drop]
  rfl
theorem piece_len (s : ByteArray) (i n : Nat) (h : i + n ≤ s.size) : (piece s i n).length = n := by
  unfold piece
  have : s.data.size = s.size := rfl
  simp; omega
end Go.Proofs.YtbflkcldjjpioaaDoor

/-
  GetSign, plainly: the first byte's say, the bytes behind it, and the model's own decoder.
-/
namespace Go.Proofs.YtbflkcldjjpioaaDoor
open Go.RowKit
set_option linter.unusedVariables false

/-- The bytes of a sign, as numbers. -/
def encN (n : Nat) : List Nat :=
  if n < 128 then [n] else if n < 2048 then [192 + n / 64, 128 + n % 64] else if n < 65536 then [224 + n / 4096, 128 + n / 64 % 64, 128 + n % 64]
  else [240 + n / 262144, 128 + n / 4096 % 64, 128 + n / 64 % 64, 128 + n % 64]
/-- The bytes of PutSign's answer, as numbers. -/
def sgN (n : Nat) : List Nat := if n < 55296 ∨ (57343 < n ∧ n < 1114112) then encN n else []
theorem sgN_eq (n : Nat) : (signB (n : Int)).data.toList.map UInt8.toNat = sgN n := by
  unfold signB sgN
  by_cases h : n < 55296 ∨ (57343 < n ∧ n < 1114112)
  · have hv := valid_of n h
    rw [if_pos h, if_pos (by unfold isSg; simp; omega)]
    unfold Utf8.encode encN
    simp only [hv, if_true, Int.toNat_natCast]
    by_cases h1 : n < 128
    · rw [if_pos h1, if_pos h1]; simp; omega
    · rw [if_neg h1, if_neg h1]
      by_cases h2 : n < 2048
      · rw [if_pos h2, if_pos h2]; simp; omega
      · rw [if_neg h2, if_neg h2]
        by_cases h3 : n < 65536
        · rw [if_pos h3, if_pos h3]; simp; omega
        · rw [if_neg h3, if_neg h3]; simp; omega
  · rw [if_neg h, if_neg (by unfold isSg; simp; omega)]
    rfl
theorem get_get! (s : ByteArray) (i : Nat) (h : i < s.size) : s[i] = s.get! i := by
  cases s with
  | mk d => exact (getElem!_pos d i h).symm
/-- A piece's bytes, as numbers. -/
def pcN (s : ByteArray) (i m : Nat) : List Nat := (List.range m).map fun k => (s.get! (i + k)).toNat
theorem pcN_eq (s : ByteArray) (i : Nat) : ∀ m, i + m ≤ s.size → (piece s i m).map UInt8.toNat = pcN s i m
  | 0, _ => by simp [piece, pcN]
  | m + 1, h => by
    rw [piece_succ s i m (by omega), List.map_append, pcN_eq s i m (by omega), get_get! _ _ (by omega)]
    simp [pcN, List.range_succ]
theorem extract_piece (s : ByteArray) (i m : Nat) : (s.extract i (i + m)).data.toList = piece s i m := by
  unfold piece
  simp [ByteArray.data_extract]
theorem ba_ext {a b : ByteArray} (h : a.data.toList = b.data.toList) : a = b := by
  cases a; cases b; congr 1; exact Array.toList_inj.1 h
theorem map_toNat_inj {a b : List UInt8} (h : a.map UInt8.toNat = b.map UInt8.toNat) : a = b :=
  (List.map_inj_right (fun x y h => UInt8.toNat_inj.1 h)).1 h
theorem sg_cmp (s : ByteArray) (i m n : Nat) (h : i + m ≤ s.size) : signB (n : Int) = s.extract i (i + m) ↔ sgN n = pcN s i m := by
  rw [← sgN_eq, ← pcN_eq s i m h, ← extract_piece]
  constructor
  · intro h; rw [h]
  · intro h; exact ba_ext (map_toNat_inj h)

/-- GetSign reads a sign at a place. -/
def gsOk (s : ByteArray) (i : Int) : Prop := 0 ≤ i ∧ i < s.size ∧ ¬ ((Utf8.decode s i.toNat).1 = 65533 ∧ (Utf8.decode s i.toNat).2 < 3)
instance (s : ByteArray) (i : Int) : Decidable (gsOk s i) := by unfold gsOk; infer_instance
/-- What GetSign hands back. -/
def gsN (s : ByteArray) (i : Int) : Int := if gsOk s i then (Utf8.decode s i.toNat).1 else -1
def gsE (s : ByteArray) (i : Int) : Int := if gsOk s i then i + (Utf8.decode s i.toNat).2 else -1

/-- How many bytes the first one says that there are, and what it holds. -/
def manyN (b : Nat) : Nat := if b < 128 then 1 else if 192 ≤ b ∧ b ≤ 223 then 2 else if 224 ≤ b ∧ b ≤ 239 then 3 else if 240 ≤ b ∧ b ≤ 247 then 4 else 0
def headN (b : Nat) : Nat := if b < 128 then b else if 192 ≤ b ∧ b ≤ 223 then b % 32 else if 224 ≤ b ∧ b ≤ 239 then b % 16 else if 240 ≤ b ∧ b ≤ 247 then b % 8 else 0
/-- What has been read behind k more bytes. -/
def accN (s : ByteArray) (i : Nat) : Nat → Nat
  | 0 => headN (s.get! i).toNat
  | k + 1 => accN s i k * 64 + (s.get! (i + (k + 1))).toNat % 64
theorem manyN_le (b : Nat) : manyN b ≤ 4 := by unfold manyN; repeat' split
                                               all_goals omega
theorem headN_lt (b : Nat) : headN b < 128 := by unfold headN; repeat' split
                                                 all_goals omega
theorem accN_lt (s : ByteArray) (i : Nat) : ∀ k, k ≤ 3 → accN s i k < 33554432 := by
  have h0 := headN_lt (s.get! i).toNat
  intro k hk
  rcases (show k = 0 ∨ k = 1 ∨ k = 2 ∨ k = 3 by omega) with rfl | rfl | rfl | rfl <;> simp only [accN] <;> omega

set_option maxRecDepth 100000 in
set_option maxHeartbeats 4000000 in
theorem sgn_none (s : ByteArray) (i : Nat) (h : manyN (s.get! i).toNat = 0 ∨ s.size < i + manyN (s.get! i).toNat) : ¬ gsOk s (i : Int) := by
  unfold gsOk
  rintro ⟨_, h2, h3⟩
  apply h3
  rw [Int.toNat_natCast, Lib.decode_at]
  have b0 := (s.get! i).toNat_lt
  revert h
  generalize (s.get! i).toNat = b0 at *
  generalize (s.get! (i + 1)).toNat = b1 at *
  generalize (s.get! (i + 2)).toNat = b2 at *
  generalize (s.get! (i + 3)).toNat = b3 at *
  intro h
  unfold manyN at h
  unfold Lib.decodeN
  repeat' split
  all_goals first | (exact ⟨rfl, by omega⟩) | (exfalso; revert h; repeat' split
                                               all_goals omega)
set_option maxRecDepth 100000 in
set_option maxHeartbeats 4000000 in
theorem sgn_pure (z b0 b1 b2 b3 m : Nat) (hb0 : b0 < 256) (hb1 : b1 < 256) (hb2 : b2 < 256) (hb3 : b3 < 256) (hm : m = manyN b0) (h0 : 0 < m) (hz : m ≤ z) (N : Nat) (L : List Nat)
    (hN : (m = 1 ∧ N = headN b0 ∧ L = [b0]) ∨ (m = 2 ∧ N = headN b0 * 64 + b1 % 64 ∧ L = [b0, b1]) ∨ (m = 3 ∧ N = (headN b0 * 64 + b1 % 64) * 64 + b2 % 64 ∧ L = [b0, b1, b2]) ∨
      (m = 4 ∧ N = ((headN b0 * 64 + b1 % 64) * 64 + b2 % 64) * 64 + b3 % 64 ∧ L = [b0, b1, b2, b3])) :
    (¬ ((Lib.decodeN z b0 b1 b2 b3).1 = 65533 ∧ (Lib.decodeN z b0 b1 b2 b3).2 < 3) ↔ sgN N = L) ∧ (¬ ((Lib.decodeN z b0 b1 b2 b3).1 = 65533 ∧ (Lib.decodeN z b0 b1 b2 b3).2 < 3) → Lib.decodeN z b0 b1 b2 b3 = (N, m)) := by
  have hc : (b0 < 128 ∧ m = 1 ∧ headN b0 = b0) ∨ ((192 ≤ b0 ∧ b0 ≤ 223) ∧ m = 2 ∧ headN b0 = b0 % 32) ∨ ((224 ≤ b0 ∧ b0 ≤ 239) ∧ m = 3 ∧ headN b0 = b0 % 16) ∨ ((240 ≤ b0 ∧ b0 ≤ 247) ∧ m = 4 ∧ headN b0 = b0 % 8) := by
    subst hm
    revert h0
    unfold manyN headN
    repeat' split
    all_goals omega
  clear hm
  rcases hc with ⟨hb, rfl, hh⟩ | ⟨hb, rfl, hh⟩ | ⟨hb, rfl, hh⟩ | ⟨hb, rfl, hh⟩
  · obtain ⟨rfl, rfl⟩ : N = b0 ∧ L = [b0] := by
      rcases hN with ⟨h, h1, h2⟩ | ⟨h, _⟩ | ⟨h, _⟩ | ⟨h, _⟩
      · exact ⟨h1.trans hh, h2⟩
      all_goals omega
    rw [Lib.decodeN, if_pos hb]
    unfold sgN encN
    rw [if_pos (by omega), if_pos hb]
    simp
    omega
  · obtain ⟨hNN, rfl⟩ : N = b0 % 32 * 64 + b1 % 64 ∧ L = [b0, b1] := by
      rcases hN with ⟨h, _⟩ | ⟨h, h1, h2⟩ | ⟨h, _⟩ | ⟨h, _⟩
      · omega
      · exact ⟨by rw [h1, hh], h2⟩
      all_goals omega
    have hNl : N < 2048 := by omega
    unfold sgN encN
    rw [if_pos (by omega)]
    by_cases h1 : b1 / 64 = 2
    · by_cases h2 : 128 ≤ N
      · rw [Lib.decodeN, if_neg (by omega), if_pos (by omega), ← hNN, if_pos h2, if_neg (by omega), if_pos hNl]
        simp
        omega
      · rw [Lib.decodeN, if_neg (by omega), if_pos (by omega), ← hNN, if_neg h2, if_pos (by omega)]
        simp
    · rw [Lib.decodeN, if_neg (by omega), if_neg (by omega), if_neg (by omega), if_neg (by omega)]
      by_cases h2 : 128 ≤ N
      · rw [if_neg (by omega), if_pos hNl]
        simp
        omega
      · rw [if_pos (by omega)]
        simp
  · obtain ⟨hNN, rfl⟩ : N = b0 % 16 * 4096 + b1 % 64 * 64 + b2 % 64 ∧ L = [b0, b1, b2] := by
      rcases hN with ⟨h, _⟩ | ⟨h, _⟩ | ⟨h, h1, h2⟩ | ⟨h, _⟩
      · omega
      · omega
      · exact ⟨by rw [h1, hh]; omega, h2⟩
      · omega
    have hNl : N < 65536 := by omega
    by_cases h1 : b1 / 64 = 2 ∧ b2 / 64 = 2
    · by_cases h2 : 2048 ≤ N ∧ (N < 55296 ∨ (57344 ≤ N ∧ N ≤ 1114111))
      · rw [Lib.decodeN, if_neg (by omega), if_neg (by omega), if_pos (by omega), ← hNN, if_pos h2]
        unfold sgN encN
        rw [if_pos (by omega), if_neg (by omega), if_neg (by omega), if_pos hNl]
        simp
        omega
      · rw [Lib.decodeN, if_neg (by omega), if_neg (by omega), if_pos (by omega), ← hNN, if_neg h2]
        unfold sgN encN
        by_cases h3 : N < 55296 ∨ (57343 < N ∧ N < 1114112)
        · rw [if_pos h3]
          by_cases h4 : N < 128
          · rw [if_pos h4]; simp
          · rw [if_neg h4, if_pos (by omega)]; simp
        · rw [if_neg h3]; simp
    · rw [Lib.decodeN, if_neg (by omega), if_neg (by omega), if_neg (by omega), if_neg (by omega)]
      unfold sgN encN
      by_cases h3 : N < 55296 ∨ (57343 < N ∧ N < 1114112)
      · rw [if_pos h3]
        by_cases h4 : N < 128
        · rw [if_pos h4]; simp
        · rw [if_neg h4]
          by_cases h5 : N < 2048
          · rw [if_pos h5]; simp
          · rw [if_neg h5, if_pos hNl]; simp; omega
      · rw [if_neg h3]; simp
  · obtain ⟨hNN, rfl⟩ : N = b0 % 8 * 262144 + b1 % 64 * 4096 + b2 % 64 * 64 + b3 % 64 ∧ L = [b0, b1, b2, b3] := by
      rcases hN with ⟨h, _⟩ | ⟨h, _⟩ | ⟨h, _⟩ | ⟨h, h1, h2⟩
      · omega
      · omega
      · omega
      · exact ⟨by rw [h1, hh]; omega, h2⟩
    by_cases h1 : b1 / 64 = 2 ∧ b2 / 64 = 2 ∧ b3 / 64 = 2
    · by_cases h2 : 65536 ≤ N ∧ (N < 55296 ∨ (57344 ≤ N ∧ N ≤ 1114111))
      · rw [Lib.decodeN, if_neg (by omega), if_neg (by omega), if_neg (by omega), if_pos (by omega), ← hNN, if_pos h2]
        unfold sgN encN
        rw [if_pos (by omega), if_neg (by omega), if_neg (by omega), if_neg (by omega)]
        simp
        omega
      · rw [Lib.decodeN, if_neg (by omega), if_neg (by omega), if_neg (by omega), if_pos (by omega), ← hNN, if_neg h2]
        unfold sgN encN
        by_cases h3 : N < 55296 ∨ (57343 < N ∧ N < 1114112)
        · rw [if_pos h3]
          by_cases h4 : N < 128
          · rw [if_pos h4]; simp
          · rw [if_neg h4]
            by_cases h5 : N < 2048
            · rw [if_pos h5]; simp
            · rw [if_neg h5, if_pos (by omega)]; simp
        · rw [if_neg h3]; simp
    · rw [Lib.decodeN, if_neg (by omega), if_neg (by omega), if_neg (by omega), if_neg (by omega)]
      unfold sgN encN
      by_cases h3 : N < 55296 ∨ (57343 < N ∧ N < 1114112)
      · rw [if_pos h3]
        by_cases h4 : N < 128
        · rw [if_pos h4]; simp
        · rw [if_neg h4]
          by_cases h5 : N < 2048
          · rw [if_pos h5]; simp
          · rw [if_neg h5]
            by_cases h6 : N < 65536
            · rw [if_pos h6]; simp
            · rw [if_neg h6]; simp; omega
      · rw [if_neg h3]; simp
theorem sgn_some (s : ByteArray) (i m : Nat) (hm : m = manyN (s.get! i).toNat) (h0 : 0 < m) (hle : i + m ≤ s.size) :
    (gsOk s (i : Int) ↔ sgN (accN s i (m - 1)) = pcN s i m) ∧ (gsOk s (i : Int) → Utf8.decode s i = (accN s i (m - 1), m)) := by
  have hi : (0 : Int) ≤ i ∧ (i : Int) < s.size := by omega
  unfold gsOk
  rw [Int.toNat_natCast, Lib.decode_at]
  simp only [hi, true_and]
  have h4 := manyN_le (s.get! i).toNat
  refine sgn_pure (s.size - i) _ _ _ _ m ((s.get! i).toNat_lt) ((s.get! _).toNat_lt) ((s.get! _).toNat_lt) ((s.get! _).toNat_lt) hm h0 (by omega) _ _ ?_
  rcases (show m = 1 ∨ m = 2 ∨ m = 3 ∨ m = 4 by omega) with rfl | rfl | rfl | rfl
  · exact .inl ⟨rfl, rfl, by simp [pcN, List.range_succ]⟩
  · exact .inr (.inl ⟨rfl, rfl, by simp [pcN, List.range_succ]⟩)
  · exact .inr (.inr (.inl ⟨rfl, rfl, by simp [pcN, List.range_succ]⟩))
  · exact .inr (.inr (.inr ⟨rfl, rfl, by simp [pcN, List.range_succ]⟩))
end Go.Proofs.YtbflkcldjjpioaaDoor

/-
  The signs of a text, plainly: one by one from a place on; a text that is right.
-/
namespace Go.Proofs.YtbflkcldjjpioaaDoor
open Go.RowKit
set_option linter.unusedVariables false

/-- The signs from a place on, none where there is a wrong one. -/
def restG (s : ByteArray) : Nat → Nat → Option (List Nat)
  | 0, _ => some []
  | f + 1, i => if i < s.size then (if gsOk s (i : Int) then (restG s f (i + (Utf8.decode s i).2)).map ((Utf8.decode s i).1 :: ·) else none) else some []
def restF (s : ByteArray) (i : Nat) : Option (List Nat) := restG s (s.size - i) i
theorem dec_pos (s : ByteArray) (i : Nat) : 1 ≤ (Utf8.decode s i).2 := Lib.width_pos s i
theorem restG_fuel (s : ByteArray) : ∀ f g i, s.size - i ≤ f → s.size - i ≤ g → restG s f i = restG s g i
  | 0, 0, _, _, _ => rfl
  | 0, g + 1, i, h, _ => by rw [restG, restG, if_neg (by omega)]
  | f + 1, 0, i, _, h => by rw [restG, restG, if_neg (by omega)]
  | f + 1, g + 1, i, h1, h2 => by
    rw [restG, restG]
    by_cases hi : i < s.size
    · have := dec_pos s i
      rw [if_pos hi, if_pos hi, restG_fuel s f g _ (by omega) (by omega)]
    · rw [if_neg hi, if_neg hi]
theorem restF_end (s : ByteArray) (i : Nat) (h : s.size ≤ i) : restF s i = some [] := by
  unfold restF
  rw [show s.size - i = 0 by omega]
  rfl
theorem restF_ok (s : ByteArray) (i : Nat) (h : i < s.size) (hok : gsOk s (i : Int)) : restF s i = (restF s (i + (Utf8.decode s i).2)).map ((Utf8.decode s i).1 :: ·) := by
  have := dec_pos s i
  unfold restF
  obtain ⟨f, hf⟩ : ∃ f, s.size - i = f + 1 := ⟨s.size - i - 1, by omega⟩
  rw [hf, restG, if_pos h, if_pos hok, restG_fuel s f _ _ (by omega) (Nat.le_refl _)]
theorem restF_bad (s : ByteArray) (i : Nat) (h : i < s.size) (hok : ¬ gsOk s (i : Int)) : restF s i = none := by
  unfold restF
  obtain ⟨f, hf⟩ : ∃ f, s.size - i = f + 1 := ⟨s.size - i - 1, by omega⟩
  rw [hf, restG, if_pos h, if_neg hok]
/-- A text is right. -/
def textOk (s : ByteArray) : Bool := (restF s 0).isSome
/-- The signs of a text, none if it isn't right. -/
def signsL (s : ByteArray) : List Nat := (restF s 0).getD []

theorem dec_65533 (s : ByteArray) (i : Nat) : ((Utf8.decode s i).1 = 65533 ∧ (Utf8.decode s i).2 < 3) ↔ ((Utf8.decode s i).1 = 65533 ∧ (Utf8.decode s i).2 = 1) := by
  rw [Lib.decode_at]
  have h0 := (s.get! i).toNat_lt
  have h1 := (s.get! (i + 1)).toNat_lt
  generalize (s.get! i).toNat = b0 at *
  generalize (s.get! (i + 1)).toNat = b1 at *
  unfold Lib.decodeN
  repeat' split
  all_goals simp
  all_goals omega
theorem gsOk_nat (s : ByteArray) (i : Nat) (h : i < s.size) : gsOk s (i : Int) ↔ ¬ ((Utf8.decode s i).1 = 65533 ∧ (Utf8.decode s i).2 = 1) := by
  unfold gsOk
  rw [Int.toNat_natCast, ← dec_65533]
  constructor
  · exact fun h => h.2.2
  · exact fun h => ⟨by omega, by omega, h⟩
theorem valid_rest (s : ByteArray) : ∀ n i, s.size - i ≤ n → Lib.validD (s.data.toList.drop i) = (restF s i).isSome := by
  have hl : s.data.toList.length = s.size := rfl
  intro n
  induction n with
  | zero =>
    intro i h
    rw [restF_end s i (by omega), List.drop_eq_nil_of_le (by omega)]
    rfl
  | succ n ih =>
    intro i h
    by_cases hi : i < s.size
    · have hne : s.data.toList.drop i ≠ [] := by
        intro h
        have := congrArg List.length h
        simp at this
        have e : s.data.size = s.size := rfl
        omega
      have hp := dec_pos s i
      rw [Lib.validD_step _ hne, Lib.decodeL_drop, List.drop_drop]
      by_cases hok : gsOk s (i : Int)
      · rw [if_neg ((gsOk_nat s i hi).1 hok), restF_ok s i hi hok, ih _ (by omega)]
        simp
      · rw [if_pos (by
          have := hok
          rw [gsOk_nat s i hi] at this
          exact Classical.not_not.1 this), restF_bad s i hi hok]
        rfl
    · rw [restF_end s i (by omega), List.drop_eq_nil_of_le (by omega)]
      rfl
theorem valid_textOk (s : ByteArray) : Lib.validD s.data.toList = textOk s := by
  have := valid_rest s _ 0 (Nat.le_refl _)
  simpa [textOk] using this
theorem textOk_signs (s : ByteArray) : textOk s = (decide (s.size = 0) || decide (0 < (signsL s).length)) := by
  unfold textOk signsL
  by_cases h0 : s.size = 0
  · rw [restF_end s 0 (by omega)]; simp [h0]
  · by_cases hok : gsOk s ((0 : Nat) : Int)
    · rw [restF_ok s 0 (by omega) hok]
      cases restF s (0 + (Utf8.decode s 0).2) <;> simp [h0]
    · rw [restF_bad s 0 (by omega) hok]; simp [h0]

/-- What has been read ahead of a place. -/
def ReadTo (s : ByteArray) (i : Nat) (pre : List Nat) : Prop := i ≤ s.size ∧ pre.length ≤ i ∧ restF s 0 = (restF s i).map (pre ++ ·)
theorem readTo_zero (s : ByteArray) : ReadTo s 0 [] := ⟨Nat.zero_le _, Nat.le_refl _, by cases restF s 0 <;> simp⟩
theorem dec_le (s : ByteArray) (i : Nat) (h : i < s.size) : i + (Utf8.decode s i).2 ≤ s.size := by
  rw [Lib.decode_at]
  unfold Lib.decodeN
  repeat' split
  all_goals simp
  all_goals omega
theorem readTo_next {s : ByteArray} {i : Nat} {pre : List Nat} (h : ReadTo s i pre) (hi : i < s.size) (hok : gsOk s (i : Int)) : ReadTo s (i + (Utf8.decode s i).2) (pre ++ [(Utf8.decode s i).1]) := by
  have hp := dec_pos s i
  refine ⟨dec_le s i hi, by have := h.2.1; simp; omega, ?_⟩
  rw [h.2.2, restF_ok s i hi hok]
  cases restF s (i + (Utf8.decode s i).2) <;> simp
theorem readTo_bad {s : ByteArray} {i : Nat} {pre : List Nat} (h : ReadTo s i pre) (hi : i < s.size) (hok : ¬ gsOk s (i : Int)) : signsL s = [] ∧ textOk s = false := by
  unfold signsL textOk
  rw [h.2.2, restF_bad s i hi hok]
  exact ⟨rfl, rfl⟩
theorem readTo_end {s : ByteArray} {i : Nat} {pre : List Nat} (h : ReadTo s i pre) (hi : ¬ i < s.size) : signsL s = pre ∧ textOk s = true := by
  unfold signsL textOk
  rw [h.2.2, restF_end s i (by omega)]
  simp
theorem signsL_len (s : ByteArray) : (signsL s).length ≤ s.size := by
  have : ∀ f i l, restG s f i = some l → l.length ≤ f := by
    intro f
    induction f with
    | zero => intro i l h; simp [restG] at h; subst h; simp
    | succ f ih =>
      intro i l h
      rw [restG] at h
      split at h
      · split at h
        · cases hr : restG s f (i + (Utf8.decode s i).2) with
          | none => rw [hr] at h; simp at h
          | some l' =>
            rw [hr] at h
            simp at h
            subst h
            have := ih _ _ hr
            simp; omega
        · cases h
      · simp at h; subst h; simp
  unfold signsL
  cases h : restF s 0 with
  | none => simp
  | some l => have := this _ _ _ h; simpa using this
end Go.Proofs.YtbflkcldjjpioaaDoor

/-
  Numbers of 64 bits.
-/
namespace Go.Proofs.YtbflkcldjjpioaaDoor
open Go.RowKit

/-- A number as a value of 64 bits. -/
def i64of (n : Nat) : Int := wrap64 (n : Int)
theorem wrap64_eq (n : Int) : wrap64 n = (n + 9223372036854775808) % 18446744073709551616 - 9223372036854775808 := by unfold wrap64; rfl
theorem i64of_zero : i64of 0 = 0 := by unfold i64of; rw [wrap64_eq]; rfl
theorem i64of_small (n : Nat) (h : n < 9223372036854775808) : i64of n = (n : Int) := by unfold i64of; rw [wrap64_eq]; omega
theorem i64of_succ (n : Nat) : wrap64 (i64of n + 1) = i64of (n + 1) := by unfold i64of; rw [wrap64_eq, wrap64_eq, wrap64_eq]; omega
end Go.Proofs.YtbflkcldjjpioaaDoor

/-
  A right value, plainly.
-/
namespace Go.Proofs.YtbflkcldjjpioaaDoor
open Go.RowKit
set_option linter.unusedVariables false

/-- A number of 64 bits. -/
def inR (n : Int) : Prop := -9223372036854775808 ≤ n ∧ n ≤ 9223372036854775807
instance (n : Int) : Decidable (inR n) := by unfold inR; infer_instance
/-- A number ten times, so often, as long as it is one of 64 bits. -/
def tens : Int → Nat → Option Int
  | n, 0 => some n
  | n, k + 1 => if inR (n * 10) then tens (n * 10) k else none
theorem tens_zero : ∀ k, tens 0 k = some 0
  | 0 => rfl
  | k + 1 => by unfold tens; rw [Int.zero_mul, if_pos (by unfold inR; omega)]; exact tens_zero k
/-- A right decimal number. -/
def decOk (n e : Int) : Prop := -20 ≤ e ∧ e ≤ 20 ∧ e ≠ 0 ∧ -999999999999999999 ≤ n ∧ n ≤ 999999999999999999 ∧ Int.tmod n 10 ≠ 0 ∧ (0 < e → tens n e.toNat = none)
instance (n e : Int) : Decidable (decOk n e) := by unfold decOk; infer_instance
/-- Two keys are one, by what the reference compares. -/
def keyEq (a b : V) : Prop := a.k = b.k ∧ a.n = b.n ∧ a.s = b.s
instance (a b : V) : Decidable (keyEq a b) := by unfold keyEq; infer_instance
def isKeyB (v : V) : Bool := decide (v.k = 5 ∨ v.k = 3)
/-- Keys at even places, no two of them one. -/
def pairsTo (R : V → V → Prop) (l : List V) (m : Nat) : Prop := ∀ i (h : i < l.length), i < m → i % 2 = 0 → isKeyB l[i] = true ∧ ∀ k (hk : k < i), k % 2 = 0 → ¬ R (l[k]'(by omega)) l[i]
def pairsOk (l : List V) : Prop := pairsTo keyEq l l.length ∧ l.length % 2 = 0 ∧ l.length ≤ 300
/-- What a value is but for its kids. -/
def nodeOk (v : V) : Prop :=
  if v.k = 0 ∨ v.k = 1 ∨ v.k = 2 ∨ v.k = 7 ∨ v.k = 8 then v.n = 0 ∧ v.e = 0 ∧ v.s.size = 0
  else if v.k = 3 then v.e = 0 ∧ v.s.size = 0
  else if v.k = 4 then decOk v.n v.e ∧ v.s.size = 0
  else if v.k = 5 then v.n = 0 ∧ v.e = 0 ∧ textOk v.s = true ∧ v.s.size ≤ 2000
  else if v.k = 6 then v.n = 0 ∧ v.e = 0 ∧ v.s.size ≤ 2000
  else if v.k = 9 then 0 ≤ v.n ∧ v.n ≤ 1000000 ∧ v.e = 0 ∧ v.s.size = 0
  else False
/-- Its kids, one by one apart. -/
def kidsOk (v : V) : Prop := if v.k = 7 then True else if v.k = 9 then v.kids.length = 1 else if v.k = 8 then pairsOk v.kids else v.kids.length = 0
def ownOk (v : V) : Prop := nodeOk v ∧ kidsOk v
noncomputable instance (p : Prop) : Decidable p := Classical.propDecidable p
mutual
/-- A value is right, at most so many kids deep. -/
def V.right : Int → V → Prop
  | d, .mk k n e s ks => 0 ≤ d ∧ ownOk (.mk k n e s ks) ∧ Vs.right (d - 1) ks
def Vs.right : Int → List V → Prop
  | _, [] => True
  | d, v :: r => V.right d v ∧ Vs.right d r
end
theorem V.right_eq (d : Int) (v : V) : V.right d v ↔ 0 ≤ d ∧ ownOk v ∧ Vs.right (d - 1) v.kids := by cases v; simp [V.right, V.kids]
theorem Vs.right_iff (d : Int) : ∀ l : List V, Vs.right d l ↔ ∀ i (h : i < l.length), V.right d l[i]
  | [] => by simp [Vs.right]
  | v :: r => by
    simp only [Vs.right]
    rw [Vs.right_iff d r]
    constructor
    · rintro ⟨h1, h2⟩ i hi
      cases i with
      | zero => exact h1
      | succ i => exact h2 i (by simpa using hi)
    · intro h
      exact ⟨h 0 (by simp), fun i hi => h (i + 1) (by simpa using hi)⟩
theorem Vs.right_take (d : Int) (l : List V) (h : Vs.right d (l.take l.length)) : Vs.right d l := by rwa [List.take_length] at h
theorem Vs.right_step (d : Int) (l : List V) (j : Nat) (hj : j < l.length) (h : Vs.right d (l.take j)) (hv : V.right d l[j]) : Vs.right d (l.take (j + 1)) := by
  rw [Vs.right_iff] at h ⊢
  intro i hi
  rw [List.length_take] at hi
  by_cases e : i = j
  · subst e; simpa using hv
  · have := h i (by rw [List.length_take]; omega)
    simpa using this
/-- ValueOk. -/
def okV (v : V) : Prop := V.right 12 v ∧ v.nodes ≤ 300

theorem wrap_ten {n : Int} (hn : inR n) : (Int.tdiv (wrap64 (n * 10)) 10 = n) ↔ inR (n * 10) := by
  unfold inR at *
  have hw := wrap64_eq (n * 10)
  constructor
  · intro h
    have h2 := Int.tmod_add_mul_tdiv (wrap64 (n * 10)) 10
    have h3 : -10 < Int.tmod (wrap64 (n * 10)) 10 ∧ Int.tmod (wrap64 (n * 10)) 10 < 10 := by
      constructor
      · have := Int.lt_tmod_of_pos (wrap64 (n * 10)) (show (0 : Int) < 10 by omega); omega
      · exact Int.tmod_lt_of_pos _ (by omega)
    rw [h] at h2
    omega
  · intro h
    rw [show wrap64 (n * 10) = n * 10 by omega, Int.mul_tdiv_cancel _ (by omega)]
end Go.Proofs.YtbflkcldjjpioaaDoor

/-
  The program's tests of a value: a decimal number, a value but for its kids.
-/
namespace Go.Proofs.YtbflkcldjjpioaaDoor
open Go.RowKit
set_option linter.unusedVariables false
set_option maxRecDepth 100000

theorem tens_stepJ (n : Int) (k : Nat) (h : inR (n * 10)) : tens n (k + 1) = tens (n * 10) k := by
  conv => lhs; unfold tens
  rw [if_pos h]
theorem tens_stopJ (n : Int) (k : Nat) (h : ¬ inR (n * 10)) : tens n (k + 1) = none := by
  unfold tens
  rw [if_neg h]
theorem tup2f {a a' : Int} {b b' : Bool} (h1 : a = a') (h2 : b = b') : Ending.returned (.tuple #[.int .i64 a, .bool b]) = Ending.returned (.tuple #[.int .i64 a', .bool b']) := by rw [h1, h2]

set_option maxHeartbeats 1000000 in
theorem implFits (n : Int) (m : Nat) (w : World) (hn : inR n) (hm2 : m ≤ 1020) :
    Calls Tryd.prog 84 #[.int .i64 n, .int .i64 (m : Int)] w fun e w' => e = .returned (.tuple #[.int .i64 ((tens n m).getD 0), .bool (tens n m).isSome]) ∧ w = w' := by
  go_enter Tryd.func84, Tryd.ntmps84
  go_wp2_with fail
  go_loop [0, 1] (fun z i => ∃ (j : Nat) (x : Int), j ≤ m ∧ i = .int .i64 j ∧ z = .int .i64 x ∧ inR x ∧ tens n m = tens x j) (fun _ i => (intOf i).toNat)
  case atStart => exact ⟨m, n, by omega, rfl, rfl, hn, rfl⟩
  case round =>
    obtain ⟨j, x, hj, rfl, rfl, hx, ht⟩ := hrel
    have hr := hx
    unfold inR at hr
    by_cases hj0 : j = 0
    · subst hj0
      have HT : Hid (tens n m = some x) := Lib.hid ht
      clear ht hx
      go_wp2_with fail
      go_ret2
      exact ⟨tup2f (by rw [HT.out]; rfl) (by rw [HT.out]; rfl), rfl⟩
    by_cases hx0 : x = 0
    · subst hx0
      have HT : Hid (tens n m = some 0) := Lib.hid (ht.trans (tens_zero _))
      have hjp : 0 < j := by omega
      clear ht hx hj0
      go_wp2_with fail
      go_ret2
      exact ⟨tup2f (by rw [HT.out]; rfl) (by rw [HT.out]; rfl), rfl⟩
    · have hj1 : 0 < j := by omega
      have hx1 : (x != 0) = true := by simp; omega
      obtain ⟨k, rfl⟩ : ∃ k, j = k + 1 := ⟨j - 1, by omega⟩
      clear hj0 hx0
      by_cases h10 : inR (x * 10)
      · have HT := Lib.hid (ht.trans (tens_stepJ x k h10))
        have H10 := Lib.hid h10
        have hin := h10
        unfold inR at hin
        have c1 : decide (x > 922337203685477580) = false := decide_eq_false (by omega)
        have c2 : decide (x < -922337203685477580) = false := decide_eq_false (by omega)
        clear ht hx h10
        go_wp2_with fail
        go_round
        case rel => exact ⟨k, x * 10, by omega, by go_num, by go_num, H10.out, HT.out⟩
        case measure => simp [intOf]
      · have HT := Lib.hid (ht.trans (tens_stopJ x k h10))
        have hout : 922337203685477580 < x ∨ x < -922337203685477580 := by unfold inR at h10; omega
        rcases (show decide ((922337203685477580 : Int) < x) = true ∨ (decide ((922337203685477580 : Int) < x) = false ∧ decide (x < -922337203685477580) = true) by
          by_cases h : (922337203685477580 : Int) < x
          · left; exact decide_eq_true h
          · right; exact ⟨decide_eq_false h, decide_eq_true (by omega)⟩) with hc | hc
        all_goals
          clear ht hx h10 hout
          go_wp2_with fail
          go_ret2
          exact ⟨tup2f (by rw [HT.out]; rfl) (by rw [HT.out]; rfl), rfl⟩

theorem implFitsI (n e : Int) (w : World) (hn : inR n) (h0 : 0 < e) (hm2 : e ≤ 1020) :
    Calls Tryd.prog 84 #[.int .i64 n, .int .i64 e] w fun r w' => r = .returned (.tuple #[.int .i64 ((tens n e.toNat).getD 0), .bool (tens n e.toNat).isSome]) ∧ w = w' := by
  obtain ⟨m, rfl⟩ := Int.eq_ofNat_of_zero_le (show 0 ≤ e by omega)
  exact implFits n m w hn (by omega)
theorem decOk_false {n e : Int} (h : ¬ decOk n e) : false = decide (decOk n e) := (decide_eq_false h).symm
theorem decOk_neg {n e : Int} (h1 : -20 ≤ e) (h2 : e ≤ 20) (h3 : ¬ e = 0) (h4 : -999999999999999999 ≤ n) (h5 : n ≤ 999999999999999999) (h6 : (n.tmod 10 == 0) = false) (h7 : e ≤ 0) : true = decide (decOk n e) :=
  (decide_eq_true ⟨h1, h2, h3, h4, h5, by simpa using h6, fun h => by omega⟩).symm
theorem decOk_pos {n e : Int} (h1 : -20 ≤ e) (h2 : e ≤ 20) (h3 : ¬ e = 0) (h4 : -999999999999999999 ≤ n) (h5 : n ≤ 999999999999999999) (h6 : (n.tmod 10 == 0) = false) (h7 : 0 < e) : (tens n e.toNat).isNone = decide (decOk n e) := by
  rw [Bool.eq_iff_iff, decide_eq_true_iff]
  have h6' : Int.tmod n 10 ≠ 0 := by simpa using h6
  unfold decOk
  cases ht : tens n e.toNat with
  | none => simp [*]
  | some x => simp [*]

set_option maxHeartbeats 4000000 in
theorem implIsDec (v : V) (A : Option Addr) (cap : Nat) (w : World) :
    Calls Tryd.prog 85 #[v.agg A cap] w fun e w' => e = .returned (.bool (decide (decOk v.n v.e))) ∧ Below w.heap.size w w' := by
  unfold V.agg
  go_enter Tryd.func85, Tryd.ntmps85
  go_wp2_with (first | (go_at_call 46; go_in) | (go_at_call 84; refine (implFitsI v.n v.e _ (by unfold inR; omega) (by omega) (by omega)).mono ?_; rintro r w1 ⟨rfl, rfl⟩))
  all_goals go_ret
  all_goals refine ⟨ret_bool ?_, (Below.refl _ _).alloc (Nat.le_refl _) _⟩
  all_goals first
    | (refine decOk_false (fun h => ?_); obtain ⟨q1, q2, q3, q4, q5, q6, q7⟩ := h; first | omega | (simp_all; done))
    | exact decOk_neg (by omega) (by omega) (by omega) (by omega) (by omega) (by simp_all) (by omega)
    | exact decOk_pos (by omega) (by omega) (by omega) (by omega) (by omega) (by simp_all) (by omega)
end Go.Proofs.YtbflkcldjjpioaaDoor

/-
  PutSign: the bytes of a code point.
-/
namespace Go.Proofs.YtbflkcldjjpioaaDoor
open Go.RowKit
set_option linter.unusedVariables false

set_option maxHeartbeats 1000000 in
set_option maxRecDepth 100000 in
theorem specPutSign_1 (n : Nat) (w : World) (h : n < 128) :
    Calls Tryd.prog 155 #[.int .i64 n] w fun e w' => e = .returned (.string (Utf8.encode n)) ∧ Below w.heap.size w w' := by
  have hd0 : decide ((n : Int) ≤ 1114111) = true := by simp; omega
  have hd1 : decide (55296 ≤ (n : Int)) = false := by simp; omega
  have hd2 : decide ((n : Int) < 128) = true := by simp; omega
  have hl := lit1 (P := Tryd.prog) 87 9 5 Tryd.underlying87 Tryd.underlying5 Tryd.underlying9
  go_enter Tryd.func155, Tryd.ntmps155
  go_wp2_with go_in
  go_ret
  exact ⟨ret_eq (congrArg Value.string (enc1 n (by omega))), (Below.refl _ _).alloc (Nat.le_refl _) _⟩

set_option maxHeartbeats 1000000 in
set_option maxRecDepth 100000 in
theorem specPutSign_2 (n : Nat) (w : World) (h : 128 ≤ n ∧ n < 2048) :
    Calls Tryd.prog 155 #[.int .i64 n] w fun e w' => e = .returned (.string (Utf8.encode n)) ∧ Below w.heap.size w w' := by
  have hd0 : decide ((n : Int) ≤ 1114111) = true := by simp; omega
  have hd1 : decide (55296 ≤ (n : Int)) = false := by simp; omega
  have hd2 : decide ((n : Int) < 128) = false := by simp; omega
  have hd3 : decide ((n : Int) < 2048) = true := by simp; omega
  have hd4 : bits .and .i64 (n : Int) 63 = ((n % 64 : Nat) : Int) := and63 n (by omega)
  have hl := lit2 (P := Tryd.prog) 87 9 5 Tryd.underlying87 Tryd.underlying5 Tryd.underlying9
  go_enter Tryd.func155, Tryd.ntmps155
  go_wp2_with go_in
  go_ret
  exact ⟨ret_eq (congrArg Value.string (enc2 n (by omega))), (Below.refl _ _).alloc (Nat.le_refl _) _⟩

set_option maxHeartbeats 1000000 in
set_option maxRecDepth 100000 in
theorem specPutSign_3 (n : Nat) (w : World) (h : 2048 ≤ n ∧ n < 55296) :
    Calls Tryd.prog 155 #[.int .i64 n] w fun e w' => e = .returned (.string (Utf8.encode n)) ∧ Below w.heap.size w w' := by
  have hd0 : decide ((n : Int) ≤ 1114111) = true := by simp; omega
  have hd1 : decide (55296 ≤ (n : Int)) = false := by simp; omega
  have hd2 : decide ((n : Int) < 128) = false := by simp; omega
  have hd3 : decide ((n : Int) < 2048) = false := by simp; omega
  have hd4 : decide ((n : Int) < 65536) = true := by simp; omega
  have hd5 : bits .and .i64 (n : Int) 63 = ((n % 64 : Nat) : Int) := and63 n (by omega)
  have hd6 : bits .and .i64 ((n : Int) / 64) 63 = ((n / 64 % 64 : Nat) : Int) := and63d n 64 (by omega)
  have hl := lit3 (P := Tryd.prog) 87 9 5 Tryd.underlying87 Tryd.underlying5 Tryd.underlying9
  go_enter Tryd.func155, Tryd.ntmps155
  go_wp2_with go_in
  go_ret
  exact ⟨ret_eq (congrArg Value.string (enc3 n (by omega))), (Below.refl _ _).alloc (Nat.le_refl _) _⟩

set_option maxHeartbeats 1000000 in
set_option maxRecDepth 100000 in
theorem specPutSign_4 (n : Nat) (w : World) (h : 57343 < n ∧ n < 65536) :
    Calls Tryd.prog 155 #[.int .i64 n] w fun e w' => e = .returned (.string (Utf8.encode n)) ∧ Below w.heap.size w w' := by
  have hd0 : decide ((n : Int) ≤ 1114111) = true := by simp; omega
  have hd1 : decide (55296 ≤ (n : Int)) = true := by simp; omega
  have hd2 : decide ((n : Int) ≤ 57343) = false := by simp; omega
  have hd3 : decide ((n : Int) < 128) = false := by simp; omega
  have hd4 : decide ((n : Int) < 2048) = false := by simp; omega
  have hd5 : decide ((n : Int) < 65536) = true := by simp; omega
  have hd6 : bits .and .i64 (n : Int) 63 = ((n % 64 : Nat) : Int) := and63 n (by omega)
  have hd7 : bits .and .i64 ((n : Int) / 64) 63 = ((n / 64 % 64 : Nat) : Int) := and63d n 64 (by omega)
  have hl := lit3 (P := Tryd.prog) 87 9 5 Tryd.underlying87 Tryd.underlying5 Tryd.underlying9
  go_enter Tryd.func155, Tryd.ntmps155
  go_wp2_with go_in
  go_ret
  exact ⟨ret_eq (congrArg Value.string (enc3 n (by omega))), (Below.refl _ _).alloc (Nat.le_refl _) _⟩

set_option maxHeartbeats 1000000 in
set_option maxRecDepth 100000 in
theorem specPutSign_5 (n : Nat) (w : World) (h : 65536 ≤ n ∧ n < 1114112) :
    Calls Tryd.prog 155 #[.int .i64 n] w fun e w' => e = .returned (.string (Utf8.encode n)) ∧ Below w.heap.size w w' := by
  have hd0 : decide ((n : Int) ≤ 1114111) = true := by simp; omega
  have hd1 : decide (55296 ≤ (n : Int)) = true := by simp; omega
  have hd2 : decide ((n : Int) ≤ 57343) = false := by simp; omega
  have hd3 : decide ((n : Int) < 128) = false := by simp; omega
  have hd4 : decide ((n : Int) < 2048) = false := by simp; omega
  have hd5 : decide ((n : Int) < 65536) = false := by simp; omega
  have hd6 : bits .and .i64 (n : Int) 63 = ((n % 64 : Nat) : Int) := and63 n (by omega)
  have hd7 : bits .and .i64 ((n : Int) / 64) 63 = ((n / 64 % 64 : Nat) : Int) := and63d n 64 (by omega)
  have hd8 : bits .and .i64 ((n : Int) / 4096) 63 = ((n / 4096 % 64 : Nat) : Int) := and63d n 4096 (by omega)
  have hl := lit4 (P := Tryd.prog) 87 9 5 Tryd.underlying87 Tryd.underlying5 Tryd.underlying9
  go_enter Tryd.func155, Tryd.ntmps155
  go_wp2_with go_in
  go_ret
  exact ⟨ret_eq (congrArg Value.string (enc4 n (by omega))), (Below.refl _ _).alloc (Nat.le_refl _) _⟩

theorem specPutSign (n : Int) (w : World) (h0 : -9223372036854775808 ≤ n ∧ n ≤ 9223372036854775807) :
    Calls Tryd.prog 155 #[.int .i64 n] w fun e w' => e = .returned (.string (signB n)) ∧ Below w.heap.size w w' := by
  by_cases h : (0 ≤ n ∧ n < 55296) ∨ (57343 < n ∧ n ≤ 1114111)
  · have hs : signB n = Utf8.encode n := by unfold signB isSg; rw [if_pos (by simp; omega)]
    rw [hs]
    obtain ⟨n, rfl⟩ := Int.eq_ofNat_of_zero_le (show 0 ≤ n by omega)
    rcases (show n < 128 ∨ (128 ≤ n ∧ n < 2048) ∨ (2048 ≤ n ∧ n < 55296) ∨ (57343 < n ∧ n < 65536) ∨ (65536 ≤ n ∧ n < 1114112) by omega) with hc | hc | hc | hc | hc
    · exact specPutSign_1 n w hc
    · exact specPutSign_2 n w hc
    · exact specPutSign_3 n w hc
    · exact specPutSign_4 n w hc
    · exact specPutSign_5 n w hc
  · have hs : signB n = ⟨#[]⟩ := by unfold signB isSg; rw [if_neg (by simp; omega)]
    rw [hs]
    clear hs
    rcases (show n < 0 ∨ 1114111 < n ∨ (55296 ≤ n ∧ n ≤ 57343) by omega) with hc | hc | hc
    · clear h
      go_enter Tryd.func155, Tryd.ntmps155
      go_wp2_with go_in
      go_ret
      exact ⟨rfl, Below.refl _ _⟩
    · clear h
      have hd : decide (n ≤ 1114111) = false := by simp; omega
      go_enter Tryd.func155, Tryd.ntmps155
      go_wp2_with go_in
      go_ret
      exact ⟨rfl, Below.refl _ _⟩
    · clear h
      have hd : decide (n ≤ 1114111) = true := by simp; omega
      have hd2 : decide (n ≤ 57343) = true := by simp; omega
      go_enter Tryd.func155, Tryd.ntmps155
      go_wp2_with go_in
      go_ret
      exact ⟨rfl, Below.refl _ _⟩
end Go.Proofs.YtbflkcldjjpioaaDoor

/-
  GetSign of the reference: the sign at a place, as the model's own decoder reads it.
-/
namespace Go.Proofs.YtbflkcldjjpioaaDoor
open Go.RowKit
set_option linter.unusedVariables false

theorem and31 (n : Nat) (h : n < 9223372036854775808) : bits .and .i64 (n : Int) 31 = ((n % 32 : Nat) : Int) := by
  have h1 := ofInt_i64 n h
  have h2 := ofInt_i64 31 (by omega)
  show IntKind.i64.wrap ((BitVec.ofInt 64 (n : Int) &&& BitVec.ofInt 64 ((31 : Nat) : Int)).toNat : Int) = _
  rw [BitVec.toNat_and, h1, h2, Nat.and_two_pow_sub_one_eq_mod n 5, IntKind.wrap_i64]
  omega
theorem and15i (n : Nat) (h : n < 9223372036854775808) : bits .and .i64 (n : Int) 15 = ((n % 16 : Nat) : Int) := by
  have h1 := ofInt_i64 n h
  have h2 := ofInt_i64 15 (by omega)
  show IntKind.i64.wrap ((BitVec.ofInt 64 (n : Int) &&& BitVec.ofInt 64 ((15 : Nat) : Int)).toNat : Int) = _
  rw [BitVec.toNat_and, h1, h2, Nat.and_two_pow_sub_one_eq_mod n 4, IntKind.wrap_i64]
  omega
theorem and7i (n : Nat) (h : n < 9223372036854775808) : bits .and .i64 (n : Int) 7 = ((n % 8 : Nat) : Int) := by
  have h1 := ofInt_i64 n h
  have h2 := ofInt_i64 7 (by omega)
  show IntKind.i64.wrap ((BitVec.ofInt 64 (n : Int) &&& BitVec.ofInt 64 ((7 : Nat) : Int)).toNat : Int) = _
  rw [BitVec.toNat_and, h1, h2, Nat.and_two_pow_sub_one_eq_mod n 3, IntKind.wrap_i64]
  omega

set_option maxRecDepth 100000 in
theorem specMany (b : Nat) (hb : b < 256) (w : World) :
    Calls Tryd.prog 154 #[.int .i64 b] w fun e w' => e = .returned (.tuple #[.int .i64 (manyN b), .int .i64 (headN b)]) ∧ w = w' := by
  have e1 := and31 b (by omega)
  have e2 := and15i b (by omega)
  have e3 := and7i b (by omega)
  rcases (show b < 128 ∨ (128 ≤ b ∧ b < 192) ∨ (192 ≤ b ∧ b ≤ 223) ∨ (224 ≤ b ∧ b ≤ 239) ∨ (240 ≤ b ∧ b ≤ 247) ∨ (248 ≤ b) by omega) with h | h | h | h | h | h
  · have hm : manyN b = 1 ∧ headN b = b := by unfold manyN headN; rw [if_pos h, if_pos h]; exact ⟨rfl, rfl⟩
    rw [hm.1, hm.2]
    clear hm
    go_enter Tryd.func154, Tryd.ntmps154
    go_wp2_with go_in
    go_ret2
    exact ⟨rfl, rfl⟩
  · have hm : manyN b = 0 ∧ headN b = 0 := by
      unfold manyN headN
      rw [if_neg (by omega), if_neg (by omega), if_neg (by omega), if_neg (by omega), if_neg (by omega), if_neg (by omega), if_neg (by omega), if_neg (by omega)]; exact ⟨rfl, rfl⟩
    rw [hm.1, hm.2]
    clear hm
    go_enter Tryd.func154, Tryd.ntmps154
    go_wp2_with go_in
    go_ret2
    exact ⟨rfl, rfl⟩
  · have hm : manyN b = 2 ∧ headN b = b % 32 := by
      unfold manyN headN
      rw [if_neg (by omega), if_pos h, if_neg (by omega), if_pos h]; exact ⟨rfl, rfl⟩
    rw [hm.1, hm.2]
    clear hm
    go_enter Tryd.func154, Tryd.ntmps154
    go_wp2_with go_in
    go_ret2
    exact ⟨rfl, rfl⟩
  · have hm : manyN b = 3 ∧ headN b = b % 16 := by
      unfold manyN headN
      rw [if_neg (by omega), if_neg (by omega), if_pos h, if_neg (by omega), if_neg (by omega), if_pos h]; exact ⟨rfl, rfl⟩
    rw [hm.1, hm.2]
    clear hm
    go_enter Tryd.func154, Tryd.ntmps154
    go_wp2_with go_in
    go_ret2
    exact ⟨rfl, rfl⟩
  · have hm : manyN b = 4 ∧ headN b = b % 8 := by
      unfold manyN headN
      rw [if_neg (by omega), if_neg (by omega), if_neg (by omega), if_pos h, if_neg (by omega), if_neg (by omega), if_neg (by omega), if_pos h]; exact ⟨rfl, rfl⟩
    rw [hm.1, hm.2]
    clear hm
    go_enter Tryd.func154, Tryd.ntmps154
    go_wp2_with go_in
    go_ret2
    exact ⟨rfl, rfl⟩
  · have hm : manyN b = 0 ∧ headN b = 0 := by
      unfold manyN headN
      rw [if_neg (by omega), if_neg (by omega), if_neg (by omega), if_neg (by omega), if_neg (by omega), if_neg (by omega), if_neg (by omega), if_neg (by omega)]; exact ⟨rfl, rfl⟩
    rw [hm.1, hm.2]
    clear hm
    go_enter Tryd.func154, Tryd.ntmps154
    go_wp2_with go_in
    go_ret2
    exact ⟨rfl, rfl⟩

theorem gs_no {s : ByteArray} {i : Int} (h : ¬ gsOk s i) : gsN s i = -1 ∧ gsE s i = -1 := by
  unfold gsN gsE; rw [if_neg h, if_neg h]; exact ⟨rfl, rfl⟩
theorem gs_yes {s : ByteArray} {i : Int} (h : gsOk s i) : gsN s i = (Utf8.decode s i.toNat).1 ∧ gsE s i = i + (Utf8.decode s i.toNat).2 := by
  unfold gsN gsE; rw [if_pos h, if_pos h]; exact ⟨rfl, rfl⟩
theorem gs_yes' {s : ByteArray} {i : Nat} (h : gsOk s (i : Int)) : gsN s i = (Utf8.decode s i).1 ∧ gsE s i = (i : Int) + (Utf8.decode s i).2 := by
  have := gs_yes h
  rwa [Int.toNat_natCast] at this
theorem dec_w (s : ByteArray) (i : Nat) : (Utf8.decode s i).1 < 4294967296 ∧ 1 ≤ (Utf8.decode s i).2 ∧ (Utf8.decode s i).2 ≤ 4 := by
  rw [Lib.decode_at]
  have h0 := (s.get! i).toNat_lt
  have h1 := (s.get! (i + 1)).toNat_lt
  have h2 := (s.get! (i + 2)).toNat_lt
  have h3 := (s.get! (i + 3)).toNat_lt
  unfold Lib.decodeN
  repeat' split
  all_goals simp
  all_goals omega
theorem accN_step (s : ByteArray) (i k : Nat) (h : 1 ≤ k) (hk : i + k < s.size) : accN s i (k + 1 - 1) = accN s i (k - 1) * 64 + s[i + k].toNat % 64 := by
  obtain ⟨k, rfl⟩ : ∃ j, k = j + 1 := ⟨k - 1, by omega⟩
  rw [get_get! _ _ (by omega)]
  rfl
theorem tup2 {a a' b b' : Int} (h1 : a = a') (h2 : b = b') : Ending.returned (.tuple #[.int .i64 a, .int .i64 b]) = Ending.returned (.tuple #[.int .i64 a', .int .i64 b']) := by rw [h1, h2]

theorem sl2 (s : ByteArray) (i j : Nat) (h : i + j ≤ s.size) (hs : s.size ≤ 1048576) : (0 : Int) ≤ i ∧ (i : Int) ≤ (i : Int) + j ∧ (i : Int) + j ≤ s.size ∧ IntKind.i64.wrap ((i : Int) + j) = (i : Int) + j ∧ (0 : Int) ≤ (i : Int) + j ∧ ((i : Int) + j).toNat = i + j := by
  refine ⟨by omega, by omega, by omega, ?_, by omega, by omega⟩
  rw [IntKind.wrap_i64]; omega

set_option maxHeartbeats 1000000 in
theorem specGetSign (s : ByteArray) (i : Int) (w : World) (hs : s.size ≤ 1048576) (hi : -9223372036854775808 ≤ i ∧ i ≤ 9223372036854775807) :
    Calls Tryd.prog 151 #[.string s, .int .i64 i] w fun e w' => e = .returned (.tuple #[.int .i64 (gsN s i), .int .i64 (gsE s i)]) ∧ Below w.heap.size w w' := by
  by_cases hin : 0 ≤ i ∧ i < s.size
  · obtain ⟨h0, h1⟩ := hin
    obtain ⟨i, rfl⟩ := Int.eq_ofNat_of_zero_le h0
    have hlt : i < s.size := by omega
    have hu : s[i].toNat < 256 := UInt8.toNat_lt _
    have HG := Lib.hid (get_get! s i hlt)
    by_cases hno : manyN s[i].toNat = 0 ∨ s.size < i + manyN s[i].toNat
    · have HN := Lib.hid (gs_no (sgn_none s i (by rw [← HG.out]; exact hno)))
      rcases hno with hm | hm
      · have HM := Lib.hid hm
        clear hm
        go_enter Tryd.func151, Tryd.ntmps151
        go_wp2_with fail
        refine (specMany _ hu w).mono ?_
        rintro e w' ⟨rfl, rfl⟩
        rw [HM.out]
        go_wp2_with fail
        go_ret2
        exact ⟨tup2 HN.out.1.symm HN.out.2.symm, Below.refl _ _⟩
      · have hml := manyN_le s[i].toNat
        by_cases hm0 : manyN s[i].toNat = 0
        · have HM := Lib.hid hm0
          clear hm hm0
          go_enter Tryd.func151, Tryd.ntmps151
          go_wp2_with fail
          refine (specMany _ hu w).mono ?_
          rintro e w' ⟨rfl, rfl⟩
          rw [HM.out]
          go_wp2_with fail
          go_ret2
          exact ⟨tup2 HN.out.1.symm HN.out.2.symm, Below.refl _ _⟩
        · go_enter Tryd.func151, Tryd.ntmps151
          go_wp2_with fail
          refine (specMany _ hu w).mono ?_
          rintro e w' ⟨rfl, rfl⟩
          go_wp2_with fail
          all_goals go_ret2
          all_goals exact ⟨tup2 HN.out.1.symm HN.out.2.symm, Below.refl _ _⟩
    · obtain ⟨hm0, hmle⟩ : manyN s[i].toNat ≠ 0 ∧ i + manyN s[i].toNat ≤ s.size := by omega
      have hml := manyN_le s[i].toNat
      have HS := Lib.hid (sgn_some s i (manyN s[i].toNat) (by rw [HG.out]) (by omega) hmle)
      have HH := Lib.hid (show headN s[i].toNat = accN s i (1 - 1) by rw [HG.out]; rfl)
      clear hno
      go_enter Tryd.func151, Tryd.ntmps151
      go_wp2_with fail
      refine (specMany _ hu w).mono ?_
      rintro e w' ⟨rfl, rfl⟩
      rw [HH.out]
      generalize manyN s[i].toNat = m at *
      have hmz : ((m : Int) == 0) = false := by simp; omega
      have hm1 : 1 ≤ m := by omega
      clear hm0
      go_wp2_with fail
      go_loop [7, 8] (fun n k => ∃ j : Nat, 1 ≤ j ∧ j ≤ m ∧ k = .int .i64 j ∧ n = .int .i64 (accN s i (j - 1))) (fun _ k => m - (intOf k).toNat)
      case atStart => exact ⟨1, by omega, by omega, rfl, rfl⟩
      case round =>
        obtain ⟨j, hj1, hj, rfl, rfl⟩ := hrel
        have ha := accN_lt s i (j - 1) (by omega)
        by_cases hlt2 : j < m
        · have HST := Lib.hid (accN_step s i j hj1 (by omega))
          have hu2 : s[i + j].toNat < 256 := UInt8.toNat_lt _
          have hx := and63 s[i + j].toNat (by omega)
          generalize accN s i (j - 1) = a at *
          go_wp2_with fail
          go_round
          case rel => exact ⟨j + 1, by omega, by omega, by go_num, by rw [HST.out]; go_num⟩
          case measure => simp [intOf]; omega
        · obtain rfl : j = m := by omega
          have hcmp := sg_cmp s i j (accN s i (j - 1)) hmle
          have HC := Lib.hid hcmp
          clear hcmp
          generalize accN s i (j - 1) = a at *
          have HK : Hid (((signB (a : Int)).toList == (s.extract i (i + j)).toList) = decide (gsOk s (i : Int))) := by
            rw [Bool.eq_iff_iff, decide_eq_true_iff, HS.out.1, ← HC.out, beq_iff_eq, ByteArray.toList_eq, ByteArray.toList_eq]
            exact ⟨fun h => ba_ext h, fun h => by rw [h]⟩
          go_wp2_with fail
          obtain ⟨q1, q2, q3, q4, q5, q6⟩ := sl2 s i j hmle hs
          go_region_held3 (fun _ => True) (exact trivial) (first | (go_at_call 155; refine (specPutSign _ _ ⟨by omega, by omega⟩).mono ?_; rintro e w2 ⟨rfl, hb2⟩))
          by_cases hok : gsOk s (i : Int)
          · have ht : ((signB (a : Int)).toList == (s.extract i (i + j)).toList) = true := by rw [HK.out]; exact decide_eq_true hok
            have HY := Lib.hid (gs_yes hok)
            have HD := Lib.hid (HS.out.2 hok)
            clear q1 q2 q3 q4 q5 q6
            go_wp2_with fail
            all_goals go_ret2
            all_goals first
              | (have hx : (!(signB (a : Int)).toList == (s.extract i (i + j)).toList) = true := by assumption
                 rw [ht] at hx; cases hx)
              | exact ⟨tup2 (by rw [HY.out.1, Int.toNat_natCast, HD.out]) (by rw [HY.out.2, Int.toNat_natCast, HD.out]), (Below.refl _ _).drew.trans hb2⟩
          · have ht : ((signB (a : Int)).toList == (s.extract i (i + j)).toList) = false := by rw [HK.out]; exact decide_eq_false hok
            have HN := Lib.hid (gs_no hok)
            clear q1 q2 q3 q4 q5 q6
            go_wp2_with fail
            all_goals go_ret2
            all_goals first
              | (have hx : (!(signB (a : Int)).toList == (s.extract i (i + j)).toList) = false := by assumption
                 rw [ht] at hx; cases hx)
              | exact ⟨tup2 HN.out.1.symm HN.out.2.symm, (Below.refl _ _).drew.trans hb2⟩
  · have HN := Lib.hid (gs_no (s := s) (i := i) (fun h => hin ⟨h.1, h.2.1⟩))
    go_enter Tryd.func151, Tryd.ntmps151
    by_cases h0 : i < 0
    · clear hin
      go_wp2_with fail
      go_ret2
      exact ⟨tup2 HN.out.1.symm HN.out.2.symm, Below.refl _ _⟩
    · have h1 : (s.size : Int) ≤ i := by omega
      clear hin
      go_wp2_with fail
      go_ret2
      exact ⟨tup2 HN.out.1.symm HN.out.2.symm, Below.refl _ _⟩
end Go.Proofs.YtbflkcldjjpioaaDoor

/-
  Signs and TextOk of the reference.
-/
namespace Go.Proofs.YtbflkcldjjpioaaDoor
open Go.RowKit
set_option linter.unusedVariables false

/-- A number as a value. -/
def iv (n : Nat) : Value := .int .i64 (n : Int)
theorem one_iv (n : Int) : ∀ u ∈ #[Value.int .i64 n].toList, u.oneCell' = true := by
  intro u hu; simp at hu; subst hu; rfl
theorem infoI : (Tryd.prog.info? 3).map (fun i => (i.zero, i.size, i.bytes)) = some (some (.int .i64 0), 1, 8) := by kernel_rfl
/-- What holds in the loop. -/
def SgRel (s : ByteArray) (w : World) (o i : Value) (wr : World) : Prop :=
  ∃ (j : Nat) (pre : List Nat), ReadTo s j pre ∧ i = .int .i64 j ∧ wr.ownsRow w.heap.size 3 1 o pre.length (pre.map iv) ∧ Below w.heap.size w wr

theorem sg_next {s : ByteArray} {w w' : World} {j : Nat} {pre : List Nat} {v : Value} (h : ReadTo s j pre) (hj : j < s.size) (hok : gsOk s (j : Int)) {a b : Int} (ha : a = (Utf8.decode s j).1) (hb : b = (j : Int) + (Utf8.decode s j).2)
    (hown : w'.ownsRow w.heap.size 3 1 v (pre.length + 1) (pre.map iv ++ [.int .i64 a])) (hbl : Below w.heap.size w w') : SgRel s w v (.int .i64 b) w' := by
  subst ha hb
  exact ⟨_, _, readTo_next h hj hok, by simp, by simpa [iv] using hown, hbl⟩

set_option maxHeartbeats 1000000 in
theorem specSigns (s : ByteArray) (w : World) (hs : s.size ≤ 1048576) :
    Calls Tryd.prog 140 #[.string s] w fun e w' => ∃ o, e = .returned o ∧ w'.ownsRow w.heap.size 3 1 o (signsL s).length ((signsL s).map iv) ∧ Below w.heap.size w w' := by
  go_enter Tryd.func140, Tryd.ntmps140
  go_wp2_with fail
  go_loopw [3, 4] (fun o i wr => SgRel s w o i wr) (fun _ i _ => s.size - (intOf i).toNat)
  case atStart => exact ⟨0, [], readTo_zero s, rfl, own_empty w _ _, (Below.refl _ _).alloc (Nat.le_refl _) _⟩
  case round =>
    obtain ⟨j, pre, hr, rfl, hown, hb⟩ := hrel
    have hle := hr.1
    have hpl := hr.2.1
    have HR := Lib.hid hr
    clear hr
    by_cases hlt : j < s.size
    · by_cases hok : gsOk s (j : Int)
      · have HY := Lib.hid (gs_yes' hok)
        have hp := dec_w s j
        go_wp2_with fail
        refine (specGetSign s j _ hs ⟨by omega, by omega⟩).mono ?_
        rintro e w1 ⟨rfl, hb1⟩
        have hown1 := own_below hown hb1
        have hbw := hb.trans (hb1.mono hb.size)
        have hg : gsE s (j : Int) = (j : Int) + (Utf8.decode s j).2 := HY.out.2
        have hpos : decide (gsE s (j : Int) < 0) = false := by rw [hg]; simp; omega
        have hpos2 : ¬ gsE s (j : Int) < 0 := by omega
        have HG := Lib.hid hg
        clear hg hown hb hb1
        go_wp2_with (at_builtin; refine wpList_app rfl (.tmp 21) (.tmp 23) 105 rfl w.heap.size 3 Tryd.underlying105 infoI rfl (by decide) (W := w) rfl (hown1.alloc _) (hbw.alloc hbw.size _) (Nat.le_trans hbw.size (by simp)) _ 1 1 _ rfl rfl (cells_new _ _ _) (one_iv _) (by unfold maxLen; omega) (by omega) ?_; intro v' w' hown' hb' hB')
        go_roundw
        case rel => exact sg_next HR.out hlt hok HY.out.1 HG.out hown' hb'
        case measure => have := HG.out; simp [intOf]; omega
      · have HN := Lib.hid (gs_no hok)
        have HE := Lib.hid (readTo_bad HR.out hlt hok)
        go_wp2_with fail
        refine (specGetSign s j _ hs ⟨by omega, by omega⟩).mono ?_
        rintro e w1 ⟨rfl, hb1⟩
        have hbw := hb.trans (hb1.mono hb.size)
        rw [HN.out.1, HN.out.2]
        go_wp2_with fail
        go_ret
        refine ⟨_, rfl, ?_, hbw.alloc hbw.size _⟩
        rw [HE.out.1]
        exact own_empty' _ _ hbw.size
    · have HE := Lib.hid (readTo_end HR.out hlt)
      go_wp2_with fail
      go_ret
      refine ⟨_, rfl, ?_, hb⟩
      rw [HE.out.1]
      exact hown

set_option maxHeartbeats 1000000 in
theorem specTextOk (s : ByteArray) (w : World) (hs : s.size ≤ 1048576) :
    Calls Tryd.prog 120 #[.string s] w fun e w' => e = .returned (.bool (textOk s)) ∧ Below w.heap.size w w' := by
  have HT := Lib.hid (textOk_signs s)
  by_cases h0 : s.size = 0
  · obtain rfl : s = ⟨#[]⟩ := by
      cases s with
      | mk d => cases d with
        | mk l => cases l with
          | nil => rfl
          | cons a l => simp [ByteArray.size] at h0
    go_enter Tryd.func120, Tryd.ntmps120
    go_wp2_with fail
    go_ret
    exact ⟨ret_eq (congrArg Value.bool (by rw [HT.out]; rfl)), Below.refl _ _⟩
  · have hne : s.toList.isEmpty = false := by
      rw [ByteArray.toList_eq]
      cases s with
      | mk d => cases d with
        | mk l => cases l with
          | nil => exact absurd rfl h0
          | cons a l => rfl
    have hz := signsL_len s
    have HE := Lib.hid (show textOk s = decide (0 < (signsL s).length) by rw [HT.out]; simp [h0])
    go_enter Tryd.func120, Tryd.ntmps120
    go_wp2_with fail
    refine (specSigns s w hs).mono ?_
    rintro e w1 ⟨o, rfl, hown, hb1⟩
    obtain ⟨A, c, rfl⟩ := own_slice hown
    clear hown
    go_wp2_with fail
    go_ret
    exact ⟨ret_eq (congrArg Value.bool (by rw [HE.out])), hb1⟩

end Go.Proofs.YtbflkcldjjpioaaDoor

/-
  The library's two tables of UTF-8.
-/
namespace Go.Proofs.YtbflkcldjjpioaaDoor
open Go.RowKit

/-- The library's tables. -/
def Tabs (w : World) : Prop := Lib.Utf8Tabs 3 4 w
theorem Tabs.below {w w' : World} (h : Tabs w) (hb : Below w.heap.size w w') : Tabs w' := Utf8Tabs_below h hb
end Go.Proofs.YtbflkcldjjpioaaDoor

/-
  TextOk of the program.
-/
namespace Go.Proofs.YtbflkcldjjpioaaDoor
open Go.RowKit
set_option linter.unusedVariables false

set_option maxHeartbeats 1000000 in
theorem implTextOk (s : ByteArray) (w : World) (hs : s.size ≤ 1048576) (hT : Tabs w) :
    Calls Tryd.prog 136 #[.string s] w fun e w' => e = .returned (.bool (textOk s)) ∧ Below w.heap.size w w' := by
  have HV := Lib.hid (valid_textOk s)
  go_enter Tryd.func136, Tryd.ntmps136
  go_wp2_with fail
  refine (Tryd.utf8_ValidString s w (by omega) hT).mono ?_
  rintro e w1 ⟨rfl, hb1⟩
  rw [HV.out]
  go_wp2_with fail
  go_ret
  exact ⟨rfl, hb1⟩
end Go.Proofs.YtbflkcldjjpioaaDoor

/-
  The program's test of a value but for its kids.
-/
namespace Go.Proofs.YtbflkcldjjpioaaDoor
open Go.RowKit
set_option linter.unusedVariables false
set_option maxRecDepth 100000

theorem sz_empty (s : ByteArray) : s.size = 0 ↔ s.toList = [] := by
  rw [ByteArray.toList_eq]
  constructor
  · intro h
    have : s.data.toList.length = 0 := by simpa using h
    exact List.length_eq_zero_iff.1 this
  · intro h
    have : s.data.toList.length = 0 := by rw [h]; rfl
    simpa using this
theorem szz (n : Nat) : n ≤ 2000 ↔ (n : Int) ≤ 2000 := by omega
theorem node_a {v : V} (h : v.k = 0 ∨ v.k = 1 ∨ v.k = 2 ∨ v.k = 7 ∨ v.k = 8) : nodeOk v ↔ v.n = 0 ∧ v.e = 0 ∧ v.s.toList = [] := by
  unfold nodeOk
  rw [if_pos h, sz_empty]
theorem node_3 {v : V} (h : v.k = 3) : nodeOk v ↔ v.e = 0 ∧ v.s.toList = [] := by
  unfold nodeOk
  rw [if_neg (by omega), if_pos h, sz_empty]
theorem node_4 {v : V} (h : v.k = 4) : nodeOk v ↔ decOk v.n v.e ∧ v.s.toList = [] := by
  unfold nodeOk
  rw [if_neg (by omega), if_neg (by omega), if_pos h, sz_empty]
theorem node_5 {v : V} (h : v.k = 5) : nodeOk v ↔ v.n = 0 ∧ v.e = 0 ∧ textOk v.s = true ∧ (v.s.size : Int) ≤ 2000 := by
  unfold nodeOk
  rw [if_neg (by omega), if_neg (by omega), if_neg (by omega), if_pos h, szz]
theorem node_6 {v : V} (h : v.k = 6) : nodeOk v ↔ v.n = 0 ∧ v.e = 0 ∧ (v.s.size : Int) ≤ 2000 := by
  unfold nodeOk
  rw [if_neg (by omega), if_neg (by omega), if_neg (by omega), if_neg (by omega), if_pos h, szz]
theorem node_9 {v : V} (h : v.k = 9) : nodeOk v ↔ 0 ≤ v.n ∧ v.n ≤ 1000000 ∧ v.e = 0 ∧ v.s.toList = [] := by
  unfold nodeOk
  rw [if_neg (by omega), if_neg (by omega), if_neg (by omega), if_neg (by omega), if_neg (by omega), if_pos h, sz_empty]
theorem node_else {v : V} (h : v.k < 0 ∨ 9 < v.k) : ¬ nodeOk v := by
  unfold nodeOk
  rw [if_neg (by omega), if_neg (by omega), if_neg (by omega), if_neg (by omega), if_neg (by omega), if_neg (by omega)]
  exact id
theorem bl_2a {w : World} {o o' : Obj} : Below w.heap.size w ((w.alloc o).alloc o') := ((Below.refl _ w).alloc (Nat.le_refl _) o).alloc (by simp) o'
theorem blk_first {w w1 : World} {o' : Obj} {t : TypeId} {cs : Array Value} (h : Below ((w.alloc (.cells cs t)).alloc o').heap.size ((w.alloc (.cells cs t)).alloc o') w1) : Blk w1 w.heap.size t cs :=
  ((Blk.new w t cs).alloc o').below h (by simp; omega)
theorem blk_second {w w1 : World} {o : Obj} {t : TypeId} {cs : Array Value} (h : Below ((w.alloc o).alloc (.cells cs t)).heap.size ((w.alloc o).alloc (.cells cs t)) w1) : Blk w1 (w.heap.size + 1) t cs := by
  have := (Blk.new (w.alloc o) t cs).below h (by simp)
  simpa using this
theorem bl_2b {w w1 : World} {o o' : Obj} (h : Below ((w.alloc o).alloc o').heap.size ((w.alloc o).alloc o') w1) : Below w.heap.size w w1 := bl_2a.trans (h.mono (by simp; omega))

set_option maxHeartbeats 4000000 in
theorem implNode_0 (v : V) (A : Option Addr) (cap : Nat) (w : World) (hk : v.k = 0) :
    Calls Tryd.prog 115 #[v.agg A cap] w fun e w' => e = .returned (.bool (decide (nodeOk v))) ∧ Below w.heap.size w w' := by
  have HO := Lib.hid (node_a (.inl hk))
  unfold V.agg
  go_enter Tryd.func115, Tryd.ntmps115
  go_wp2_with fail
  all_goals go_ret
  all_goals refine ⟨ret_bool ?_, bl_2a⟩
  all_goals first
    | (simp [HO.out, *]; done)
    | (simp [HO.out, *]; intros; omega)
    | (simp [HO.out, *]; cases v.s.toList <;> rfl)
    | (simp_all [HO.out]; done)
    | (simp_all [HO.out]; intros; omega)
    | (simp_all [HO.out]; cases v.s.toList <;> rfl)

set_option maxHeartbeats 4000000 in
theorem implNode_1 (v : V) (A : Option Addr) (cap : Nat) (w : World) (hk : v.k = 1) :
    Calls Tryd.prog 115 #[v.agg A cap] w fun e w' => e = .returned (.bool (decide (nodeOk v))) ∧ Below w.heap.size w w' := by
  have HO := Lib.hid (node_a (.inr (.inl hk)))
  unfold V.agg
  go_enter Tryd.func115, Tryd.ntmps115
  go_wp2_with fail
  all_goals go_ret
  all_goals refine ⟨ret_bool ?_, bl_2a⟩
  all_goals first
    | (simp [HO.out, *]; done)
    | (simp [HO.out, *]; intros; omega)
    | (simp [HO.out, *]; cases v.s.toList <;> rfl)
    | (simp_all [HO.out]; done)
    | (simp_all [HO.out]; intros; omega)
    | (simp_all [HO.out]; cases v.s.toList <;> rfl)

set_option maxHeartbeats 4000000 in
theorem implNode_2 (v : V) (A : Option Addr) (cap : Nat) (w : World) (hk : v.k = 2) :
    Calls Tryd.prog 115 #[v.agg A cap] w fun e w' => e = .returned (.bool (decide (nodeOk v))) ∧ Below w.heap.size w w' := by
  have HO := Lib.hid (node_a (.inr (.inr (.inl hk))))
  unfold V.agg
  go_enter Tryd.func115, Tryd.ntmps115
  go_wp2_with fail
  all_goals go_ret
  all_goals refine ⟨ret_bool ?_, bl_2a⟩
  all_goals first
    | (simp [HO.out, *]; done)
    | (simp [HO.out, *]; intros; omega)
    | (simp [HO.out, *]; cases v.s.toList <;> rfl)
    | (simp_all [HO.out]; done)
    | (simp_all [HO.out]; intros; omega)
    | (simp_all [HO.out]; cases v.s.toList <;> rfl)

set_option maxHeartbeats 4000000 in
theorem implNode_7 (v : V) (A : Option Addr) (cap : Nat) (w : World) (hk : v.k = 7) :
    Calls Tryd.prog 115 #[v.agg A cap] w fun e w' => e = .returned (.bool (decide (nodeOk v))) ∧ Below w.heap.size w w' := by
  have HO := Lib.hid (node_a (.inr (.inr (.inr (.inl hk)))))
  unfold V.agg
  go_enter Tryd.func115, Tryd.ntmps115
  go_wp2_with fail
  all_goals go_ret
  all_goals refine ⟨ret_bool ?_, bl_2a⟩
  all_goals first
    | (simp [HO.out, *]; done)
    | (simp [HO.out, *]; intros; omega)
    | (simp [HO.out, *]; cases v.s.toList <;> rfl)
    | (simp_all [HO.out]; done)
    | (simp_all [HO.out]; intros; omega)
    | (simp_all [HO.out]; cases v.s.toList <;> rfl)

set_option maxHeartbeats 4000000 in
theorem implNode_8 (v : V) (A : Option Addr) (cap : Nat) (w : World) (hk : v.k = 8) :
    Calls Tryd.prog 115 #[v.agg A cap] w fun e w' => e = .returned (.bool (decide (nodeOk v))) ∧ Below w.heap.size w w' := by
  have HO := Lib.hid (node_a (.inr (.inr (.inr (.inr hk)))))
  unfold V.agg
  go_enter Tryd.func115, Tryd.ntmps115
  go_wp2_with fail
  all_goals go_ret
  all_goals refine ⟨ret_bool ?_, bl_2a⟩
  all_goals first
    | (simp [HO.out, *]; done)
    | (simp [HO.out, *]; intros; omega)
    | (simp [HO.out, *]; cases v.s.toList <;> rfl)
    | (simp_all [HO.out]; done)
    | (simp_all [HO.out]; intros; omega)
    | (simp_all [HO.out]; cases v.s.toList <;> rfl)

set_option maxHeartbeats 4000000 in
theorem implNode_3 (v : V) (A : Option Addr) (cap : Nat) (w : World) (hk : v.k = 3) :
    Calls Tryd.prog 115 #[v.agg A cap] w fun e w' => e = .returned (.bool (decide (nodeOk v))) ∧ Below w.heap.size w w' := by
  have HO := Lib.hid (node_3 hk)
  unfold V.agg
  go_enter Tryd.func115, Tryd.ntmps115
  go_wp2_with fail
  all_goals go_ret
  all_goals refine ⟨ret_bool ?_, bl_2a⟩
  all_goals first
    | (simp [HO.out, *]; done)
    | (simp [HO.out, *]; intros; omega)
    | (simp [HO.out, *]; cases v.s.toList <;> rfl)
    | (simp_all [HO.out]; done)
    | (simp_all [HO.out]; intros; omega)
    | (simp_all [HO.out]; cases v.s.toList <;> rfl)

set_option maxHeartbeats 4000000 in
theorem implNode_6 (v : V) (A : Option Addr) (cap : Nat) (w : World) (hk : v.k = 6) :
    Calls Tryd.prog 115 #[v.agg A cap] w fun e w' => e = .returned (.bool (decide (nodeOk v))) ∧ Below w.heap.size w w' := by
  have HO := Lib.hid (node_6 hk)
  unfold V.agg
  go_enter Tryd.func115, Tryd.ntmps115
  go_wp2_with fail
  all_goals go_ret
  all_goals refine ⟨ret_bool ?_, bl_2a⟩
  all_goals first
    | (simp [HO.out, *]; done)
    | (simp [HO.out, *]; intros; omega)
    | (simp [HO.out, *]; cases v.s.toList <;> rfl)
    | (simp_all [HO.out]; done)
    | (simp_all [HO.out]; intros; omega)
    | (simp_all [HO.out]; cases v.s.toList <;> rfl)

set_option maxHeartbeats 4000000 in
theorem implNode_9 (v : V) (A : Option Addr) (cap : Nat) (w : World) (hk : v.k = 9) :
    Calls Tryd.prog 115 #[v.agg A cap] w fun e w' => e = .returned (.bool (decide (nodeOk v))) ∧ Below w.heap.size w w' := by
  have HO := Lib.hid (node_9 hk)
  unfold V.agg
  go_enter Tryd.func115, Tryd.ntmps115
  go_wp2_with (go_at_call 46; go_in)
  all_goals go_ret
  all_goals refine ⟨ret_bool ?_, bl_2a⟩
  all_goals first
    | (simp [HO.out, *]; done)
    | (simp [HO.out, *]; intros; omega)
    | (simp [HO.out, *]; cases v.s.toList <;> rfl)
    | (simp_all [HO.out]; done)
    | (simp_all [HO.out]; intros; omega)
    | (simp_all [HO.out]; cases v.s.toList <;> rfl)

set_option maxHeartbeats 4000000 in
theorem implNode_5 (v : V) (A : Option Addr) (cap : Nat) (w : World) (hk : v.k = 5) (hs : v.s.size ≤ 1048576) (hT : Tabs w) :
    Calls Tryd.prog 115 #[v.agg A cap] w fun e w' => e = .returned (.bool (decide (nodeOk v))) ∧ Below w.heap.size w w' := by
  have HO := Lib.hid (node_5 hk)
  unfold V.agg
  go_enter Tryd.func115, Tryd.ntmps115
  go_wp2_with (go_at_call 136; refine (implTextOk v.s _ hs (hT.below bl_2a)).mono ?_; rintro e w1 ⟨rfl, hb1⟩; obtain ⟨p0, p1, p2, p3, p4⟩ := (blk_first hb1).five; obtain ⟨q0, q1, q2, q3, q4⟩ := (blk_second hb1).five; have f1 := (blk_second hb1).frozen 1; have f2 := (blk_second hb1).frozen 2; have f3 := (blk_second hb1).frozen 3)
  all_goals go_ret
  all_goals refine ⟨ret_bool ?_, by first | exact bl_2a | exact bl_2b hb1 | exact (bl_2b hb1).setCell (p := ⟨w.heap.size + 1, 3, none⟩) (by simp) _⟩
  all_goals first
    | (simp [HO.out, *]; done)
    | (simp [HO.out, *]; intros; omega)
    | (simp_all [HO.out]; done)
    | (simp_all [HO.out]; intros; omega)
    | (simp_all [HO.out]; cases h : textOk v.s <;> simp_all <;> omega)
end Go.Proofs.YtbflkcldjjpioaaDoor

/-
  The program's test of a decimal number but for its kids.
-/
namespace Go.Proofs.YtbflkcldjjpioaaDoor
open Go.RowKit
set_option linter.unusedVariables false
set_option maxRecDepth 100000

set_option maxHeartbeats 4000000 in
theorem implNode_4 (v : V) (A : Option Addr) (cap : Nat) (w : World) (hk : v.k = 4) :
    Calls Tryd.prog 115 #[v.agg A cap] w fun e w' => e = .returned (.bool (decide (nodeOk v))) ∧ Below w.heap.size w w' := by
  have HO := Lib.hid (node_4 hk)
  unfold V.agg
  go_enter Tryd.func115, Tryd.ntmps115
  go_wp2_with fail
  have hI := fun w0 => implIsDec v A cap w0
  unfold V.agg at hI
  rw [hk] at hI
  refine (hI _).mono ?_
  rintro e w1 ⟨rfl, hb1⟩
  obtain ⟨p0, p1, p2, p3, p4⟩ := (blk_first hb1).five
  obtain ⟨q0, q1, q2, q3, q4⟩ := (blk_second hb1).five
  have f1 := (blk_second hb1).frozen 1
  have f2 := (blk_second hb1).frozen 2
  have f3 := (blk_second hb1).frozen 3
  have HBB := Lib.hid (bl_2b hb1)
  clear hb1
  by_cases hd : decOk v.n v.e
  · rw [show decide (decOk v.n v.e) = true from decide_eq_true hd]
    have HD := Lib.hid hd
    clear hd
    go_wp2_with fail
    go_region
    all_goals go_wp2_with fail
    all_goals go_ret
    all_goals refine ⟨ret_bool (by simp only [HO.out, HD.out, true_and]; cases v.s.toList <;> simp), ?_⟩
    all_goals first
      | exact ((HBB.out.setCell (p := ⟨w.heap.size + 1, 1, none⟩) (by simp) _).setCell (p := ⟨w.heap.size + 1, 2, none⟩) (by simp) _).drew
      | exact ((HBB.out.drew.setCell (p := ⟨w.heap.size + 1, 1, none⟩) (by simp) _).setCell (p := ⟨w.heap.size + 1, 2, none⟩) (by simp) _)
      | exact ((HBB.out.setCell (p := ⟨w.heap.size + 1, 2, none⟩) (by simp) _).setCell (p := ⟨w.heap.size + 1, 1, none⟩) (by simp) _).drew
  · rw [show decide (decOk v.n v.e) = false from decide_eq_false hd]
    have HN : Hid (¬ nodeOk v) := Lib.hid (fun h => hd (HO.out.1 h).1)
    clear hd
    go_wp2_with fail
    go_ret
    exact ⟨ret_bool (decide_eq_false HN.out).symm, HBB.out⟩
end Go.Proofs.YtbflkcldjjpioaaDoor

/-
  The program's isNode, whole; isKey.
-/
namespace Go.Proofs.YtbflkcldjjpioaaDoor
open Go.RowKit
set_option linter.unusedVariables false
set_option maxRecDepth 100000

set_option maxHeartbeats 2000000 in
theorem implNode_else (v : V) (A : Option Addr) (cap : Nat) (w : World) (hk : v.k < 0 ∨ 9 < v.k) :
    Calls Tryd.prog 115 #[v.agg A cap] w fun e w' => e = .returned (.bool (decide (nodeOk v))) ∧ Below w.heap.size w w' := by
  have HO := Lib.hid (node_else hk)
  have q0 : (v.k == 0) = false := by rw [beq_eq_false_iff_ne]; omega
  have q1 : (v.k == 1) = false := by rw [beq_eq_false_iff_ne]; omega
  have q2 : (v.k == 2) = false := by rw [beq_eq_false_iff_ne]; omega
  have q3 : (v.k == 3) = false := by rw [beq_eq_false_iff_ne]; omega
  have q4 : (v.k == 4) = false := by rw [beq_eq_false_iff_ne]; omega
  have q5 : (v.k == 5) = false := by rw [beq_eq_false_iff_ne]; omega
  have q6 : (v.k == 6) = false := by rw [beq_eq_false_iff_ne]; omega
  have q7 : (v.k == 7) = false := by rw [beq_eq_false_iff_ne]; omega
  have q8 : (v.k == 8) = false := by rw [beq_eq_false_iff_ne]; omega
  have q9 : (v.k == 9) = false := by rw [beq_eq_false_iff_ne]; omega
  clear hk
  unfold V.agg
  go_enter Tryd.func115, Tryd.ntmps115
  go_wp2_with fail
  go_ret
  exact ⟨ret_bool (decide_eq_false HO.out).symm, bl_2a⟩
theorem implNode (v : V) (A : Option Addr) (cap : Nat) (w : World) (hs : v.s.size ≤ 1048576) (hT : Tabs w) :
    Calls Tryd.prog 115 #[v.agg A cap] w fun e w' => e = .returned (.bool (decide (nodeOk v))) ∧ Below w.heap.size w w' := by
  rcases (show v.k = 0 ∨ v.k = 1 ∨ v.k = 2 ∨ v.k = 3 ∨ v.k = 4 ∨ v.k = 5 ∨ v.k = 6 ∨ v.k = 7 ∨ v.k = 8 ∨ v.k = 9 ∨ (v.k < 0 ∨ 9 < v.k) by omega) with h | h | h | h | h | h | h | h | h | h | h
  · exact implNode_0 v A cap w h
  · exact implNode_1 v A cap w h
  · exact implNode_2 v A cap w h
  · exact implNode_3 v A cap w h
  · exact implNode_4 v A cap w h
  · exact implNode_5 v A cap w h hs hT
  · exact implNode_6 v A cap w h
  · exact implNode_7 v A cap w h
  · exact implNode_8 v A cap w h
  · exact implNode_9 v A cap w h
  · exact implNode_else v A cap w h
set_option maxHeartbeats 1000000 in
theorem implIsKey (v : V) (A : Option Addr) (cap : Nat) (w : World) :
    Calls Tryd.prog 137 #[v.agg A cap] w fun e w' => e = .returned (.bool (isKeyB v)) ∧ Below w.heap.size w w' := by
  unfold V.agg
  go_enter Tryd.func137, Tryd.ntmps137
  go_wp2_with fail
  all_goals go_ret
  all_goals exact ⟨ret_bool (by unfold isKeyB; first | (simp [*]; done) | (rw [Bool.eq_iff_iff]; simp [*])), (Below.refl _ _).alloc (Nat.le_refl _) _⟩
end Go.Proofs.YtbflkcldjjpioaaDoor

/-
  The order of two numbers and of two texts, and the first that is not 0 of some numbers.
-/
namespace Go.Proofs.YtbflkcldjjpioaaDoor
open Go.RowKit
set_option linter.unusedVariables false
set_option maxRecDepth 100000
set_option linter.unusedSimpArgs false

/-- The order of two numbers. -/
def lessI (a b : Int) : Int := if a < b then -1 else if b < a then 1 else 0
theorem lessI_lt {a b : Int} (h : a < b) : lessI a b = -1 := by unfold lessI; rw [if_pos h]
theorem lessI_gt {a b : Int} (h : b < a) : lessI a b = 1 := by unfold lessI; rw [if_neg (by omega), if_pos h]
theorem lessI_eq (a : Int) : lessI a a = 0 := by unfold lessI; rw [if_neg (by omega), if_neg (by omega)]
theorem lessI_zero {a b : Int} (h : lessI a b = 0) : a = b := by
  unfold lessI at h
  by_cases h1 : a < b
  · rw [if_pos h1] at h; omega
  · rw [if_neg h1] at h
    by_cases h2 : b < a
    · rw [if_pos h2] at h; omega
    · omega
/-- The order of two texts. -/
def lessT (a b : ByteArray) : Int := if Op.bytesLess a.toList b.toList = true then -1 else if (a.toList == b.toList) = true then 0 else 1
theorem lessT_zero {a b : ByteArray} (h : lessT a b = 0) : a = b := by
  unfold lessT at h
  by_cases h1 : Op.bytesLess a.toList b.toList = true
  · rw [if_pos h1] at h; omega
  · rw [if_neg h1] at h
    by_cases h2 : (a.toList == b.toList) = true
    · have h3 := eq_of_beq h2
      rw [ByteArray.toList_eq, ByteArray.toList_eq] at h3
      cases a; cases b
      simp only [ByteArray.mk.injEq]
      exact Array.toList_inj.1 h3
    · rw [if_neg h2] at h; omega
theorem bytesLess_self : ∀ l : List UInt8, Op.bytesLess l l = false
  | [] => rfl
  | a :: l => by simp [Op.bytesLess, bytesLess_self l]
theorem lessT_eq (a : ByteArray) : lessT a a = 0 := by unfold lessT; rw [if_neg (by simp [bytesLess_self]), if_pos (by simp)]

/-- The first number that is not 0. -/
def orN (f : Nat → Int) : Nat → Int
  | 0 => 0
  | n + 1 => if orN f n = 0 then f n else orN f n
theorem orN_zero (f : Nat → Int) : ∀ n, (∀ i, i < n → f i = 0) → orN f n = 0
  | 0, _ => rfl
  | n + 1, h => by
    have h1 := orN_zero f n (fun i hi => h i (by omega))
    unfold orN
    rw [if_pos h1]
    exact h n (by omega)
theorem orN_first (f : Nat → Int) : ∀ (n j : Nat), (∀ i, i < j → f i = 0) → j < n → f j ≠ 0 → orN f n = f j
  | 0, j, _, h, _ => by omega
  | n + 1, j, h, hj, hn => by
    unfold orN
    by_cases hjn : j = n
    · subst hjn
      rw [if_pos (orN_zero f j h)]
    · have h1 := orN_first f n j h (by omega) hn
      rw [if_neg (by rw [h1]; exact hn), h1]
theorem orN_all (f : Nat → Int) (n : Nat) (h : orN f n = 0) : ∀ i, i < n → f i = 0 := by
  intro i
  induction i using Nat.strongRecOn with
  | _ i ih =>
    intro hi
    by_cases h0 : f i = 0
    · exact h0
    · have h1 := orN_first f n i (fun k hk => ih k hk (by omega)) hi h0
      omega
end Go.Proofs.YtbflkcldjjpioaaDoor

/-
  The order of two values, plainly.
-/
namespace Go.Proofs.YtbflkcldjjpioaaDoor
open Go.RowKit
set_option linter.unusedVariables false
set_option maxRecDepth 100000
set_option linter.unusedSimpArgs false

theorem two_new (w : World) (t u : TypeId) (cs ds : Array Value) : ∃ w2, w2 = (w.alloc (.cells cs t)).alloc (.cells ds u) ∧ Blk w2 w.heap.size t cs ∧ Blk w2 (w.heap.size + 1) u ds ∧ Below w.heap.size w w2 ∧ w2.heap.size = w.heap.size + 2 :=
  ⟨_, rfl, (Blk.new w t cs).alloc _, by simpa using Blk.new (w.alloc (.cells cs t)) u ds, ((Below.refl _ w).alloc (Nat.le_refl _) _).alloc (by simp) _, by simp⟩
/-- What is compared ahead of the kids. -/
def ordAt (a b : V) : Nat → Int
  | 0 => lessI a.k b.k
  | 1 => lessI a.n b.n
  | 2 => lessI a.e b.e
  | 3 => lessT a.s b.s
  | _ => lessI a.kids.length b.kids.length
/-- The order of two values but for their kids. -/
def V.ord (a b : V) : Int := orN (ordAt a b) 5
theorem V.ord_len {a b : V} (h : V.ord a b = 0) : a.kids.length = b.kids.length := by
  have h1 := lessI_zero (orN_all _ 5 h 4 (by omega))
  omega
/-- The five numbers that are compared. -/
def ordCells (a b : V) : Array Value := #[.int .i64 (ordAt a b 0), .int .i64 (ordAt a b 1), .int .i64 (ordAt a b 2), .int .i64 (ordAt a b 3), .int .i64 (ordAt a b 4)]
theorem ordCells_at {w : World} {g : Nat} {t : TypeId} {a b : V} (h : Blk w g t (ordCells a b)) (j : Nat) (hj : j < 5) : w.cell? ⟨g, j, none⟩ = some (.int .i64 (ordAt a b j)) := by
  rw [h.cell j]
  unfold ordCells
  rcases (show j = 0 ∨ j = 1 ∨ j = 2 ∨ j = 3 ∨ j = 4 by omega) with rfl | rfl | rfl | rfl | rfl <;> rfl

mutual
/-- The order of two values. -/
def V.cmp : V → V → Int
  | .mk k n e s ks, b => if V.ord (.mk k n e s ks) b = 0 then Vs.cmp ks b.kids else V.ord (.mk k n e s ks) b
def Vs.cmp : List V → List V → Int
  | [], _ => 0
  | a :: r, l => match l with
    | [] => 0
    | b :: t => if V.cmp a b = 0 then Vs.cmp r t else V.cmp a b
end
theorem V.cmp_zero {a b : V} (h : V.ord a b = 0) : V.cmp a b = Vs.cmp a.kids b.kids := by
  cases a
  unfold V.cmp
  rw [if_pos h]
  rfl
theorem V.cmp_ord {a b : V} (h : V.ord a b ≠ 0) : V.cmp a b = V.ord a b := by
  cases a
  unfold V.cmp
  rw [if_neg h]
theorem Vs.cmp_cons (a b : V) (r t : List V) : Vs.cmp (a :: r) (b :: t) = if V.cmp a b = 0 then Vs.cmp r t else V.cmp a b := by simp only [Vs.cmp]
theorem Vs.cmp_nil (l : List V) : Vs.cmp l [] = 0 := by cases l <;> simp only [Vs.cmp]
/-- Lists of which the first j values are alike. -/
theorem Vs.cmp_first : ∀ (l m : List V) (j : Nat) (hl : j < l.length) (hm : j < m.length), (∀ i (h1 : i < l.length) (h2 : i < m.length), i < j → V.cmp l[i] m[i] = 0) → V.cmp l[j] m[j] ≠ 0 → Vs.cmp l m = V.cmp l[j] m[j]
  | a :: r, b :: t, 0, hl, hm, h, h0 => by
    rw [Vs.cmp_cons, if_neg (by simpa using h0)]
    rfl
  | a :: r, b :: t, j + 1, hl, hm, h, h0 => by
    rw [Vs.cmp_cons, if_pos (show V.cmp a b = 0 from h 0 (by simp) (by simp) (by omega))]
    exact Vs.cmp_first r t j (by simpa using hl) (by simpa using hm) (fun i h1 h2 hi => h (i + 1) (by simpa using h1) (by simpa using h2) (by omega)) (by simpa using h0)
theorem Vs.cmp_none : ∀ (l m : List V), (∀ i (h1 : i < l.length) (h2 : i < m.length), V.cmp l[i] m[i] = 0) → Vs.cmp l m = 0
  | [], _, _ => by unfold Vs.cmp; rfl
  | a :: r, [], _ => Vs.cmp_nil _
  | a :: r, b :: t, h => by
    rw [Vs.cmp_cons, if_pos (show V.cmp a b = 0 from h 0 (by simp) (by simp))]
    exact Vs.cmp_none r t (fun i h1 h2 => h (i + 1) (by simpa using h1) (by simpa using h2))
/-- Are two values the same? -/
def V.same (a b : V) : Bool := decide (V.cmp a b = 0)
end Go.Proofs.YtbflkcldjjpioaaDoor

/-
  The program's Same.
-/
namespace Go.Proofs.YtbflkcldjjpioaaDoor
open Go.RowKit
set_option linter.unusedVariables false
set_option maxRecDepth 100000
set_option linter.unusedSimpArgs false

def ImplSameSaid (a : V) : Prop := ∀ (b : V) (A B : Option Addr) (ca cb : Nat) (w : World), a.nodes ≤ 1048577 → b.nodes ≤ 1048577 → Vs.at_ w 0 w.heap.size a.kids A → Vs.at_ w 0 w.heap.size b.kids B →
    Calls Tryd.prog 138 #[a.agg A ca, b.agg B cb] w fun e w' => e = .returned (.bool (V.same a b)) ∧ Below w.heap.size w w'

theorem sameEnters : ∀ (args : Array Value) (w : World), (callFunc 138 args).run Tryd.prog w = .ok (.enter 138 args) w :=
  enters_of Tryd.func138 (by kernel_rfl) rfl

/-- Are two rows the same? -/
def Vs.same (l m : List V) : Bool := decide (l.length = m.length ∧ Vs.cmp l m = 0)

theorem V.ord_iff (a b : V) : V.ord a b = 0 ↔ a.k = b.k ∧ a.n = b.n ∧ a.e = b.e ∧ a.s = b.s ∧ a.kids.length = b.kids.length := by
  constructor
  · intro h
    have h1 := orN_all _ 5 h
    refine ⟨lessI_zero (h1 0 (by omega)), lessI_zero (h1 1 (by omega)), lessI_zero (h1 2 (by omega)), lessT_zero (h1 3 (by omega)), ?_⟩
    have := lessI_zero (h1 4 (by omega))
    omega
  · rintro ⟨h1, h2, h3, h4, h5⟩
    refine orN_zero _ 5 fun i hi => ?_
    rcases (show i = 0 ∨ i = 1 ∨ i = 2 ∨ i = 3 ∨ i = 4 by omega) with rfl | rfl | rfl | rfl | rfl
    · show lessI a.k b.k = 0; rw [h1]; exact lessI_eq _
    · show lessI a.n b.n = 0; rw [h2]; exact lessI_eq _
    · show lessI a.e b.e = 0; rw [h3]; exact lessI_eq _
    · show lessT a.s b.s = 0; rw [h4]; exact lessT_eq _
    · show lessI a.kids.length b.kids.length = 0; rw [h5]; exact lessI_eq _
theorem V.same_no {a b : V} (h : V.ord a b ≠ 0) : V.same a b = false := by
  unfold V.same
  rw [V.cmp_ord h]
  exact decide_eq_false h
theorem V.same_yes {a b : V} (h1 : a.k = b.k) (h2 : a.n = b.n) (h3 : a.e = b.e) (h4 : a.s = b.s) : V.same a b = Vs.same a.kids b.kids := by
  by_cases h : a.kids.length = b.kids.length
  · have h0 : V.ord a b = 0 := (V.ord_iff a b).2 ⟨h1, h2, h3, h4, h⟩
    unfold V.same Vs.same
    rw [V.cmp_zero h0]
    simp [h]
  · rw [V.same_no (fun h0 => h ((V.ord_iff a b).1 h0).2.2.2.2)]
    unfold Vs.same
    simp [h]
theorem text_eq {a b : ByteArray} (h : (a.toList == b.toList) = true) : a = b := by
  have h3 := eq_of_beq h
  rw [ByteArray.toList_eq, ByteArray.toList_eq] at h3
  cases a; cases b
  simp only [ByteArray.mk.injEq]
  exact Array.toList_inj.1 h3

set_option maxHeartbeats 4000000 in
theorem sameFunc (l m : List V) (hk : ∀ i (h : i < l.length), ImplSameSaid l[i]) (A B : Option Addr) (ca cb : Nat) (w : World) (hn : Vs.nodes l ≤ 1048576) (hm : Vs.nodes m ≤ 1048576) (hat : Vs.at_ w 0 w.heap.size l A) (hbt : Vs.at_ w 0 w.heap.size m B) :
    Calls Tryd.prog 150 #[.slice A l.length ca, .slice B m.length cb, .func (Fn.func 138) #[] #[]] w fun e w' => e = .returned (.bool (Vs.same l m)) ∧ Below w.heap.size w w' := by
  have hl : l.length ≤ 1048576 := by have := Vs.len_nodes l; omega
  have hl2 : m.length ≤ 1048576 := by have := Vs.len_nodes m; omega
  have HK := fun (i : Nat) (h : i < l.length) (h2 : i < m.length) (A' B' : Option Addr) (c c' : Nat) (w' : World) (h1 : Vs.at_ w' 0 w'.heap.size (l[i]).kids A') (h2' : Vs.at_ w' 0 w'.heap.size (m[i]).kids B') => hk i h m[i] A' B' c c' w' (by have := Vs.nodes_get i h; omega) (by have := Vs.nodes_get i h2; omega) h1 h2'
  have HC := Lib.hid HK
  clear HK hk
  have HA := Lib.hid hat
  have HB := Lib.hid hbt
  have HS := Lib.hid (Vs.cmp_first l m)
  have HN := Lib.hid (Vs.cmp_none l m)
  have hE := sameEnters
  clear hat hbt
  by_cases hlen : l.length = m.length
  · have HL := Lib.hid hlen
    rw [← hlen]
    clear hlen
    go_enter Tryd.func150, Tryd.ntmps150
    go_wp2_with fail
    go_loopw [17] (fun i wr => ∃ j : Nat, j ≤ l.length ∧ i = .int .i64 j ∧ (∀ k (h1 : k < l.length) (h2 : k < m.length), k < j → V.cmp l[k] m[k] = 0) ∧ Below w.heap.size w wr) (fun i _ => l.length - (intOf i).toNat)
    case atStart => exact ⟨0, Nat.zero_le _, rfl, fun k _ _ hk => by omega, Below.refl _ _⟩
    case round =>
      obtain ⟨j, hj, rfl, hz, hb⟩ := hrel
      have HH := Lib.hid hz
      clear hz
      by_cases hlt : j < l.length
      · have hlt2 : j < m.length := by have := HL.out; omega
        obtain ⟨g, off, A', cap', rfl, g1, g2, g3, ⟨c0, c1, c2, c3, c4⟩, g5⟩ := Vs.at_get j hlt (Vs.at_below HA.out hb (Nat.le_refl _))
        obtain ⟨g', off2, A2', cap2', rfl, g12, g22, g32, ⟨d0, d1, d2, d3, d4⟩, g52⟩ := Vs.at_get j hlt2 (Vs.at_below HB.out hb (Nat.le_refl _))
        have HJ := Lib.hid (HS.out j hlt hlt2 HH.out)
        have hbs := hb.size
        have hg2 : g' < wr.heap.size := by omega
        go_wp2_with fail
        refine (HC.out j hlt hlt2 A' A2' cap' cap2' _ (Vs.at_more (Nat.le_refl _) (by simp; omega) _ _ (Vs.at_alloc (Vs.at_alloc g5 hb.size _) (by simp; omega) _)) (Vs.at_more (Nat.le_refl _) (by simp; omega) _ _ (Vs.at_alloc (Vs.at_alloc g52 hb.size _) (by simp; omega) _))).mono ?_
        rintro e w1 ⟨rfl, hb1⟩
        have hbw : Below w.heap.size w w1 := ((hb.alloc hb.size _).alloc (by simp; omega) _).trans (hb1.mono (by simp; omega))
        clear c0 c1 c2 c3 c4 d0 d1 d2 d3 d4
        by_cases h0 : V.cmp l[j] m[j] = 0
        · have H0 := Lib.hid h0
          rw [show V.same l[j] m[j] = true from decide_eq_true h0]
          clear h0
          go_wp2_with fail
          go_roundw
          case rel => exact ⟨j + 1, by omega, by go_num, fun k h1 h2 hk => by
            by_cases hk2 : k = j
            · subst hk2; exact H0.out
            · exact HH.out k h1 h2 (by omega), hbw⟩
          case measure => simp [intOf]; omega
        · rw [show V.same l[j] m[j] = false from decide_eq_false h0]
          go_wp2_with fail
          go_ret
          exact ⟨ret_bool (by unfold Vs.same; rw [HJ.out h0]; exact (decide_eq_false fun h => h0 h.2).symm), hbw⟩
      · obtain rfl : j = l.length := by omega
        go_wp2_with fail
        go_ret
        exact ⟨ret_bool (by unfold Vs.same; exact (decide_eq_true ⟨HL.out, HN.out fun k h1 h2 => HH.out k h1 h2 h1⟩).symm), hb⟩
  · have HL := Lib.hid hlen
    go_enter Tryd.func150, Tryd.ntmps150
    go_wp2_with fail
    go_ret
    exact ⟨ret_bool (by unfold Vs.same; exact (decide_eq_false fun h => HL.out h.1).symm), Below.refl _ _⟩

set_option maxHeartbeats 4000000 in
theorem implSame_step (a : V) (hk : ∀ i (h : i < a.kids.length), ImplSameSaid a.kids[i]) : ImplSameSaid a := by
  intro b A B ca cb w hn hm hat hbt
  rw [V.nodes_eq] at hn hm
  have HC := Lib.hid (sameFunc a.kids b.kids hk)
  clear hk
  have HA := Lib.hid hat
  have HB := Lib.hid hbt
  clear hat hbt
  unfold V.agg
  have HN : ∀ h : V.ord a b ≠ 0, V.same a b = false := V.same_no
  have HO := Lib.hid (V.ord_iff a b)
  have HNN := Lib.hid HN
  clear HN
  by_cases h1 : (a.k == b.k) = true
  · by_cases h2 : (a.n == b.n) = true
    · by_cases h3 : (a.e == b.e) = true
      · by_cases h4 : (a.s.toList == b.s.toList) = true
        · have HY := Lib.hid (V.same_yes (eq_of_beq h1) (eq_of_beq h2) (eq_of_beq h3) (text_eq h4))
          go_enter Tryd.func138, Tryd.ntmps138
          go_wp2_with fail
          obtain ⟨w2, hw2, Ba, Bb, b1, z2⟩ := two_new w 34 34 #[.int .i64 a.k, .int .i64 a.n, .int .i64 a.e, .string a.s, .slice A a.kids.length ca] #[.int .i64 b.k, .int .i64 b.n, .int .i64 b.e, .string b.s, .slice B b.kids.length cb]
          rw [← hw2]
          clear hw2
          refine (HC.out A B ca cb w2 (by omega) (by omega) (Vs.at_more (Nat.le_refl _) b1.size _ _ (Vs.at_below HA.out b1 (Nat.le_refl _))) (Vs.at_more (Nat.le_refl _) b1.size _ _ (Vs.at_below HB.out b1 (Nat.le_refl _)))).mono ?_
          rintro e w4 ⟨rfl, hb4⟩
          have b6 := b1.trans (hb4.mono b1.size)
          go_wp2_with fail
          go_ret
          exact ⟨ret_bool (by rw [HY.out]), b6⟩
        · have HY := Lib.hid (HNN.out fun h => h4 (by rw [(HO.out.1 h).2.2.2.1]; exact beq_self_eq_true _))
          have h4' : (a.s.toList == b.s.toList) = false := by simpa using h4
          clear h4
          go_enter Tryd.func138, Tryd.ntmps138
          go_wp2_with fail
          go_ret
          exact ⟨ret_bool (by rw [HY.out]), ((Below.refl _ w).alloc (Nat.le_refl _) _).alloc (by simp) _⟩
      · have HY := Lib.hid (HNN.out fun h => h3 (by rw [(HO.out.1 h).2.2.1]; exact beq_self_eq_true _))
        have h3' : (a.e == b.e) = false := by simpa using h3
        clear h3
        go_enter Tryd.func138, Tryd.ntmps138
        go_wp2_with fail
        go_ret
        exact ⟨ret_bool (by rw [HY.out]), ((Below.refl _ w).alloc (Nat.le_refl _) _).alloc (by simp) _⟩
    · have HY := Lib.hid (HNN.out fun h => h2 (by rw [(HO.out.1 h).2.1]; exact beq_self_eq_true _))
      have h2' : (a.n == b.n) = false := by simpa using h2
      clear h2
      go_enter Tryd.func138, Tryd.ntmps138
      go_wp2_with fail
      go_ret
      exact ⟨ret_bool (by rw [HY.out]), ((Below.refl _ w).alloc (Nat.le_refl _) _).alloc (by simp) _⟩
  · have HY := Lib.hid (HNN.out fun h => h1 (by rw [(HO.out.1 h).1]; exact beq_self_eq_true _))
    have h1' : (a.k == b.k) = false := by simpa using h1
    clear h1
    go_enter Tryd.func138, Tryd.ntmps138
    go_wp2_with fail
    go_ret
    exact ⟨ret_bool (by rw [HY.out]), ((Below.refl _ w).alloc (Nat.le_refl _) _).alloc (by simp) _⟩
theorem implSame (a : V) : ImplSameSaid a := V.all implSame_step a
end Go.Proofs.YtbflkcldjjpioaaDoor

/-
  The program's areKids.
-/
namespace Go.Proofs.YtbflkcldjjpioaaDoor
open Go.RowKit
set_option linter.unusedVariables false
set_option maxRecDepth 100000

/-- Two keys are one, by what the program compares. -/
def keySame (a b : V) : Prop := V.same b a = true
def pairsI (l : List V) : Prop := pairsTo keySame l l.length ∧ l.length % 2 = 0
def kidsI (v : V) : Prop := if v.k = 7 then True else if v.k = 9 then v.kids.length = 1 else if v.k = 8 then pairsI v.kids else v.kids.length = 0
theorem kidsI_8 {v : V} (h : v.k = 8) : kidsI v ↔ pairsI v.kids := by
  unfold kidsI
  rw [if_neg (by omega), if_neg (by omega), if_pos h]
theorem pairsToP_step {R : V → V → Prop} {l : List V} {j : Nat} (hj : j < l.length) (he : j % 2 = 0) (h : pairsTo R l j) (hk : isKeyB l[j] = true) (hn : ∀ k (hk : k < j), k % 2 = 0 → ¬ R (l[k]'(by omega)) l[j]) : pairsTo R l (j + 2) := by
  intro i hi hlt hev
  by_cases e : i = j
  · subst e; exact ⟨hk, hn⟩
  · exact h i hi (by omega) hev
theorem pairsToP_end {R : V → V → Prop} {l : List V} {j : Nat} (hj : l.length ≤ j) (h : pairsTo R l j) : pairsTo R l l.length := fun i hi _ he => h i hi (by omega) he

set_option maxHeartbeats 4000000 in
theorem implKids_8 (v : V) (A : Option Addr) (cap : Nat) (w : World) (hk : v.k = 8) (hn : v.nodes ≤ 1048577) (hat : Vs.at_ w 0 w.heap.size v.kids A) :
    Calls Tryd.prog 116 #[v.agg A cap] w fun e w' => e = .returned (.bool (decide (kidsI v))) ∧ Below w.heap.size w w' := by
  have HO := Lib.hid (kidsI_8 hk)
  have HA := Lib.hid hat
  have q7 : (v.k == 7) = false := by rw [hk]; rfl
  have q9 : (v.k == 9) = false := by rw [hk]; rfl
  have q8 : (v.k == 8) = true := by rw [hk]; rfl
  have hl : v.kids.length ≤ 1048576 := by have := Vs.len_nodes v.kids; have := V.nodes_eq v; omega
  have HNN := Lib.hid (fun (i : Nat) (h : i < v.kids.length) => show (v.kids[i]).nodes ≤ 1048577 by have := Vs.nodes_get i h; have := V.nodes_eq v; omega)
  clear hk hat hn
  unfold V.agg
  go_enter Tryd.func116, Tryd.ntmps116
  go_wp2_with fail
  go_loopw [3, 4] (fun i k wr => ∃ j : Nat, j ≤ v.kids.length + 1 ∧ j % 2 = 0 ∧ i = .int .i64 j ∧ pairsTo keySame v.kids j ∧ Blk wr w.heap.size 34 #[.int .i64 v.k, .int .i64 v.n, .int .i64 v.e, .string v.s, .slice A v.kids.length cap] ∧ Below w.heap.size w wr) (fun i _ _ => v.kids.length + 2 - (intOf i).toNat)
  case atStart => exact ⟨0, by omega, rfl, rfl, fun i _ h => by omega, Blk.new _ _ _, (Below.refl _ _).alloc (Nat.le_refl _) _⟩
  case round =>
    obtain ⟨j, hj, he, rfl, hp, B, hb⟩ := hrel
    have HP := Lib.hid hp
    have b4 : wr.cell? ⟨w.heap.size, 4, none⟩ = some (.slice A v.kids.length cap) := B.cell 4
    clear hp
    by_cases hlt : j < v.kids.length
    · obtain ⟨b, off, A', cap', eA, g1, g2, g3, ⟨c0, c1, c2, c3, c4⟩, g5⟩ := Vs.at_get j hlt (Vs.at_below HA.out hb (Nat.le_refl _))
      subst eA
      go_wp2_with fail
      refine (implIsKey v.kids[j] A' cap' _).mono ?_
      rintro e w1 ⟨rfl, hb1⟩
      have B1 := B.below hb1 B.lt
      have b1 := hb.trans (hb1.mono hb.size)
      clear c0 c1 c2 c3 c4 b4 g5
      by_cases hkey : isKeyB v.kids[j] = true
      · rw [hkey]
        have HKEY := Lib.hid hkey
        clear hkey
        go_wp2_with fail
        go_loopw [4] (fun k wq => ∃ m : Nat, m ≤ j + 1 ∧ m % 2 = 0 ∧ k = .int .i64 m ∧ (∀ q (hq : q < j), q < m → q % 2 = 0 → ¬ keySame (v.kids[q]'(by omega)) v.kids[j]) ∧ Blk wq w.heap.size 34 #[.int .i64 v.k, .int .i64 v.n, .int .i64 v.e, .string v.s, .slice (some ⟨b, off, none⟩) v.kids.length cap] ∧ Below w.heap.size w wq) (fun k _ => j + 2 - (intOf k).toNat)
        case atStart => exact ⟨0, by omega, rfl, rfl, fun q _ h => by omega, B1, b1⟩
        case round =>
          obtain ⟨m, hm, hme, rfl, hnot, Bq, hbq⟩ := hrel
          have HNOT := Lib.hid hnot
          have b4 : wr.cell? ⟨w.heap.size, 4, none⟩ = some (.slice (some ⟨b, off, none⟩) v.kids.length cap) := Bq.cell 4
          clear hnot
          by_cases hmj : m < j
          · have hmlt : m < v.kids.length := by omega
            obtain ⟨b1, off1, A1, cap1, e1, k1, k2, k3, ⟨d0, d1, d2, d3, d4⟩, k5⟩ := Vs.at_get m hmlt (Vs.at_below HA.out hbq (Nat.le_refl _))
            obtain ⟨b2, off2, A2, cap2, e2, m1, m2, m3, ⟨f0, f1, f2, f3, f4⟩, m5⟩ := Vs.at_get j hlt (Vs.at_below HA.out hbq (Nat.le_refl _))
            injection e1 with e1
            injection e1 with e11 e12
            injection e2 with e2
            injection e2 with e21 e22
            subst e11 e12 e21 e22
            go_wp2_with fail
            go_still_tail 10, (by kernel_rfl)
            change wpList _ _ _ _ _ wr.drew
            go_wp2_with fail
            refine (implSame v.kids[j] v.kids[m] A2 A1 cap2 cap1 wr.drew (HNN.out j hlt) (HNN.out m hmlt) (Vs.at_more (Nat.le_refl _) hbq.size _ _ (Vs.at_drew m5)) (Vs.at_more (Nat.le_refl _) hbq.size _ _ (Vs.at_drew k5))).mono ?_
            rintro e w2 ⟨rfl, hb2⟩
            have hbw : Below w.heap.size w w2 := hbq.drew.trans (hb2.mono hbq.size)
            have B2 := (Bq.drew).below hb2 Bq.lt
            clear d0 d1 d2 d3 d4 f0 f1 f2 f3 f4 b4 k5 m5
            by_cases hq : V.same v.kids[j] v.kids[m] = true
            · rw [hq]
              have HN : Hid (¬ kidsI v) := Lib.hid (fun h => ((HO.out.1 h).1 j hlt hlt he).2 m hmj hme hq)
              clear hq
              go_wp2_with fail
              go_ret
              exact ⟨ret_bool (decide_eq_false HN.out).symm, hbw⟩
            · have HQ := Lib.hid hq
              rw [show V.same v.kids[j] v.kids[m] = false by simpa using hq]
              clear hq
              go_wp2_with fail
              go_roundw
              case rel => exact ⟨m + 2, by omega, by omega, by go_num, fun q hq1 hq2 hq3 => by
                by_cases e : q = m
                · subst e; exact HQ.out
                · exact HNOT.out q hq1 (by omega) hq3, B2, hbw⟩
              case measure => simp [intOf]; omega
          · have HST := Lib.hid (pairsToP_step hlt he HP.out HKEY.out (fun k hk hke => HNOT.out k hk (by omega) hke))
            go_wp2_with fail
            go_roundw
            case rel => exact ⟨j + 2, by omega, by omega, by go_num, HST.out, Bq, hbq⟩
            case measure => simp [intOf]; omega
      · have hkf : isKeyB v.kids[j] = false := by simpa using hkey
        have HN : Hid (¬ kidsI v) := Lib.hid (fun h => hkey ((HO.out.1 h).1 j hlt hlt he).1)
        rw [hkf]
        go_wp2_with fail
        go_ret
        exact ⟨ret_bool (decide_eq_false HN.out).symm, b1⟩
    · have HE : Hid (kidsI v ↔ v.kids.length % 2 = 0) := Lib.hid (HO.out.trans ⟨fun h => h.2, fun h => ⟨pairsToP_end (by omega) HP.out, h⟩⟩)
      by_cases hev : v.kids.length % 2 = 0
      · have hx : ((v.kids.length : Int) % 2 == 0) = true := by rw [beq_iff_eq]; omega
        go_wp2_with fail
        go_ret
        exact ⟨ret_bool (decide_eq_true (HE.out.2 hev)).symm, hb⟩
      · have hx : ((v.kids.length : Int) % 2 == 0) = false := by rw [beq_eq_false_iff_ne]; omega
        go_wp2_with fail
        go_ret
        exact ⟨ret_bool (decide_eq_false (fun h => hev (HE.out.1 h))).symm, hb⟩

set_option maxHeartbeats 1000000 in
theorem implKids_7 (v : V) (A : Option Addr) (cap : Nat) (w : World) (hk : v.k = 7) :
    Calls Tryd.prog 116 #[v.agg A cap] w fun e w' => e = .returned (.bool (decide (kidsI v))) ∧ Below w.heap.size w w' := by
  have HO : Hid (kidsI v) := Lib.hid (by unfold kidsI; rw [if_pos hk]; trivial)
  have q7 : (v.k == 7) = true := by rw [hk]; rfl
  clear hk
  unfold V.agg
  go_enter Tryd.func116, Tryd.ntmps116
  go_wp2_with fail
  go_ret
  exact ⟨ret_bool (decide_eq_true HO.out).symm, (Below.refl _ _).alloc (Nat.le_refl _) _⟩
theorem int_eq_dec (n m : Nat) : ((n : Int) == (m : Int)) = decide (n = m) := by rw [Bool.eq_iff_iff]; simp; omega
set_option maxHeartbeats 1000000 in
theorem implKids_9 (v : V) (A : Option Addr) (cap : Nat) (w : World) (hk : v.k = 9) (hl : v.kids.length ≤ 1048576) :
    Calls Tryd.prog 116 #[v.agg A cap] w fun e w' => e = .returned (.bool (decide (kidsI v))) ∧ Below w.heap.size w w' := by
  have HO : Hid (decide (kidsI v) = ((v.kids.length : Int) == 1)) := Lib.hid (by
    have h := int_eq_dec v.kids.length 1
    rw [show ((1 : Nat) : Int) = 1 from rfl] at h
    rw [h]
    exact decide_eq_decide.2 (by unfold kidsI; rw [if_neg (by omega), if_pos hk]))
  have q7 : (v.k == 7) = false := by rw [hk]; rfl
  have q9 : (v.k == 9) = true := by rw [hk]; rfl
  clear hk
  unfold V.agg
  go_enter Tryd.func116, Tryd.ntmps116
  go_wp2_with fail
  go_ret
  exact ⟨ret_bool HO.out.symm, (Below.refl _ _).alloc (Nat.le_refl _) _⟩
set_option maxHeartbeats 1000000 in
theorem implKids_0 (v : V) (A : Option Addr) (cap : Nat) (w : World) (hk : v.k ≠ 7 ∧ v.k ≠ 8 ∧ v.k ≠ 9) (hl : v.kids.length ≤ 1048576) :
    Calls Tryd.prog 116 #[v.agg A cap] w fun e w' => e = .returned (.bool (decide (kidsI v))) ∧ Below w.heap.size w w' := by
  have HO : Hid (decide (kidsI v) = ((v.kids.length : Int) == 0)) := Lib.hid (by
    have h := int_eq_dec v.kids.length 0
    rw [show ((0 : Nat) : Int) = 0 from rfl] at h
    rw [h]
    exact decide_eq_decide.2 (by unfold kidsI; rw [if_neg hk.1, if_neg hk.2.2, if_neg hk.2.1]))
  have q7 : (v.k == 7) = false := by rw [beq_eq_false_iff_ne]; exact hk.1
  have q9 : (v.k == 9) = false := by rw [beq_eq_false_iff_ne]; exact hk.2.2
  have q8 : (v.k == 8) = false := by rw [beq_eq_false_iff_ne]; exact hk.2.1
  clear hk
  unfold V.agg
  go_enter Tryd.func116, Tryd.ntmps116
  go_wp2_with fail
  go_ret
  exact ⟨ret_bool HO.out.symm, (Below.refl _ _).alloc (Nat.le_refl _) _⟩
theorem implKids (v : V) (A : Option Addr) (cap : Nat) (w : World) (hn : v.nodes ≤ 1048577) (hat : Vs.at_ w 0 w.heap.size v.kids A) :
    Calls Tryd.prog 116 #[v.agg A cap] w fun e w' => e = .returned (.bool (decide (kidsI v))) ∧ Below w.heap.size w w' := by
  have hl : v.kids.length ≤ 1048576 := by have := Vs.len_nodes v.kids; have := V.nodes_eq v; omega
  rcases (show v.k = 7 ∨ v.k = 8 ∨ v.k = 9 ∨ (v.k ≠ 7 ∧ v.k ≠ 8 ∧ v.k ≠ 9) by omega) with h | h | h | h
  · exact implKids_7 v A cap w h
  · exact implKids_8 v A cap w h hn hat
  · exact implKids_9 v A cap w h hl
  · exact implKids_0 v A cap w h hl
end Go.Proofs.YtbflkcldjjpioaaDoor

/-
  A right value, as the program asks it; that is what the reference asks, where there are not too many nodes.
-/
namespace Go.Proofs.YtbflkcldjjpioaaDoor
open Go.RowKit
set_option linter.unusedVariables false
set_option maxRecDepth 100000

mutual
/-- A value is right as the program asks it, at most so many kids deep. -/
def V.rightI : Int → V → Prop
  | d, .mk k n e s ks => 0 ≤ d ∧ nodeOk (.mk k n e s ks) ∧ kidsI (.mk k n e s ks) ∧ Vs.rightI (d - 1) ks
def Vs.rightI : Int → List V → Prop
  | _, [] => True
  | d, v :: r => V.rightI d v ∧ Vs.rightI d r
end
theorem V.rightI_eq (d : Int) (v : V) : V.rightI d v ↔ 0 ≤ d ∧ nodeOk v ∧ kidsI v ∧ Vs.rightI (d - 1) v.kids := by cases v; simp [V.rightI, V.kids]
theorem Vs.rightI_iff (d : Int) : ∀ l : List V, Vs.rightI d l ↔ ∀ i (h : i < l.length), V.rightI d l[i]
  | [] => by simp [Vs.rightI]
  | v :: r => by
    simp only [Vs.rightI]
    rw [Vs.rightI_iff d r]
    constructor
    · rintro ⟨h1, h2⟩ i hi
      cases i with
      | zero => exact h1
      | succ i => exact h2 i (by simpa using hi)
    · intro h
      exact ⟨h 0 (by simp), fun i hi => h (i + 1) (by simpa using hi)⟩
theorem Vs.rightI_take (d : Int) (l : List V) (h : Vs.rightI d (l.take l.length)) : Vs.rightI d l := by rwa [List.take_length] at h
theorem Vs.rightI_step (d : Int) (l : List V) (j : Nat) (hj : j < l.length) (h : Vs.rightI d (l.take j)) (hv : V.rightI d l[j]) : Vs.rightI d (l.take (j + 1)) := by
  rw [Vs.rightI_iff] at h ⊢
  intro i hi
  rw [List.length_take] at hi
  by_cases e : i = j
  · subst e; simpa using hv
  · have := h i (by rw [List.length_take]; omega)
    simpa using this

/-- A key that is right has no kids and no e. -/
def leafy (v : V) : Prop := v.e = 0 ∧ v.kids.length = 0
theorem leafy_right {d : Int} {v : V} (h : V.right d v) (hk : isKeyB v = true) : leafy v := by
  obtain ⟨_, ⟨h1, h2⟩, _⟩ := (V.right_eq d v).1 h
  have hk' : v.k = 5 ∨ v.k = 3 := by simpa [isKeyB] using hk
  unfold nodeOk at h1
  unfold kidsOk at h2
  rcases hk' with hk' | hk' <;> simp [hk'] at h1 h2
  · exact ⟨h1.2.1, by simp [h2]⟩
  · exact ⟨h1.1, by simp [h2]⟩
theorem keySame_iff {a b : V} (ha : leafy a) (hb : leafy b) : keySame a b ↔ keyEq a b := by
  unfold keySame keyEq
  constructor
  · intro h
    have h0 : V.ord b a = 0 := by
      by_cases h0 : V.ord b a = 0
      · exact h0
      · rw [V.same_no h0] at h; cases h
    obtain ⟨h1, h2, h3, h4, h5⟩ := (V.ord_iff b a).1 h0
    exact ⟨h1.symm, h2.symm, h4.symm⟩
  · rintro ⟨h1, h2, h3⟩
    rw [V.same_yes h1.symm h2.symm (by rw [ha.1, hb.1]) h3.symm]
    have e1 : a.kids = [] := List.eq_nil_of_length_eq_zero ha.2
    have e2 : b.kids = [] := List.eq_nil_of_length_eq_zero hb.2
    rw [e1, e2]
    unfold Vs.same
    exact decide_eq_true ⟨rfl, by simp [Vs.cmp]⟩
theorem pairsTo_iff {l : List V} (h : ∀ i (hi : i < l.length), isKeyB l[i] = true → leafy l[i]) (m : Nat) : pairsTo keySame l m ↔ pairsTo keyEq l m := by
  unfold pairsTo
  constructor
  · intro hp i hi hm he
    obtain ⟨h1, h2⟩ := hp i hi hm he
    refine ⟨h1, fun k hk hke hq => h2 k hk hke ((keySame_iff (h k (by omega) (hp k (by omega) (by omega) hke).1) (h i hi h1)).2 hq)⟩
  · intro hp i hi hm he
    obtain ⟨h1, h2⟩ := hp i hi hm he
    refine ⟨h1, fun k hk hke hq => h2 k hk hke ((keySame_iff (h k (by omega) (hp k (by omega) (by omega) hke).1) (h i hi h1)).1 hq)⟩
theorem kidsI_iff {d : Int} {v : V} (h : Vs.right d v.kids) (hn : v.kids.length ≤ 300) : kidsI v ↔ kidsOk v := by
  unfold kidsI kidsOk
  have h2 : pairsI v.kids ↔ pairsOk v.kids := by
    unfold pairsI pairsOk
    rw [pairsTo_iff (fun i hi hk => leafy_right ((Vs.right_iff _ _).1 h i hi) hk)]
    exact ⟨fun ⟨a, b⟩ => ⟨a, b, hn⟩, fun ⟨a, b, _⟩ => ⟨a, b⟩⟩
  rw [h2]
theorem rightI_iff : ∀ v : V, v.nodes ≤ 301 → ∀ d, V.rightI d v ↔ V.right d v := by
  refine V.all fun v hk hn d => ?_
  have hkids : Vs.rightI (d - 1) v.kids ↔ Vs.right (d - 1) v.kids := by
    rw [Vs.rightI_iff, Vs.right_iff]
    have h1 : ∀ i (h : i < v.kids.length), (v.kids[i]).nodes ≤ 301 := fun i h => by have := Vs.nodes_get i h; have := V.nodes_eq v; omega
    exact ⟨fun h i hi => (hk i hi (h1 i hi) _).1 (h i hi), fun h i hi => (hk i hi (h1 i hi) _).2 (h i hi)⟩
  rw [V.rightI_eq, V.right_eq, hkids]
  have hl : v.kids.length ≤ 300 := by have := Vs.len_nodes v.kids; have := V.nodes_eq v; omega
  unfold ownOk
  constructor
  · rintro ⟨a, b, c, e⟩; exact ⟨a, ⟨b, (kidsI_iff e hl).1 c⟩, e⟩
  · rintro ⟨a, ⟨b, c⟩, e⟩; exact ⟨a, b, (kidsI_iff e hl).2 c, e⟩
/-- What is asked of a value where there may be so many nodes. -/
def inV (L : Nat) (d : Int) (v : V) : Prop := v.nodes ≤ L ∧ V.rightI (12 - d) v
theorem inV_okV (v : V) : inV 300 0 v ↔ okV v := by
  unfold inV okV
  constructor
  · rintro ⟨h1, h2⟩; exact ⟨(rightI_iff v (by omega) _).1 (by simpa using h2), h1⟩
  · rintro ⟨h1, h2⟩; exact ⟨h2, (rightI_iff v (by omega) _).2 (by simpa using h1)⟩
end Go.Proofs.YtbflkcldjjpioaaDoor

/-
  The reference's tests of a value: a number times ten, keys of pairs.
-/
namespace Go.Proofs.YtbflkcldjjpioaaDoor
open Go.RowKit
set_option linter.unusedVariables false
set_option maxRecDepth 100000

theorem tens_step (n : Int) (k : Nat) (h : inR (n * 10)) : tens n (k + 1) = tens (n * 10) k := by
  conv => lhs; unfold tens
  rw [if_pos h]
theorem tens_stop (n : Int) (k : Nat) (h : ¬ inR (n * 10)) : tens n (k + 1) = none := by
  unfold tens
  rw [if_neg h]

theorem wrap_tdiv (y : Int) : wrap64 (Int.tdiv (wrap64 y) 10) = Int.tdiv (wrap64 y) 10 := by
  have h1 := wrap64_eq y
  have h2 := Int.tmod_add_mul_tdiv (wrap64 y) 10
  have h3 : -10 < Int.tmod (wrap64 y) 10 ∧ Int.tmod (wrap64 y) 10 < 10 := by
    constructor
    · have := Int.lt_tmod_of_pos (wrap64 y) (show (0 : Int) < 10 by omega); omega
    · exact Int.tmod_lt_of_pos _ (by omega)
  rw [wrap64_eq (Int.tdiv _ _)]
  omega
theorem inR_div {x : Int} (h : inR (x * 10)) : wrap64 (x * 10) = x * 10 ∧ Int.tdiv (x * 10) 10 = x := by
  unfold inR at h
  exact ⟨by rw [wrap64_eq]; omega, Int.mul_tdiv_cancel _ (by omega)⟩

set_option maxHeartbeats 1000000 in
theorem specWhole_pos (n : Int) (m : Nat) (w : World) (hn : inR n) (hm : 0 < m) (hm2 : m ≤ 20) :
    Calls Tryd.prog 119 #[.int .i64 n, .int .i64 (m : Int)] w fun e w' => e = .returned (.bool (tens n m).isSome) ∧ w = w' := by
  have hmp : decide ((0 : Int) < m) = true := decide_eq_true (by omega)
  go_enter Tryd.func119, Tryd.ntmps119
  go_wp2_with fail
  go_loop [0, 5, 6] (fun z i _ => ∃ (j : Nat) (x : Int), j ≤ m ∧ i = .int .i64 j ∧ z = .int .i64 x ∧ inR x ∧ tens n m = tens x (m - j)) (fun _ i _ => m - (intOf i).toNat)
  case atStart => exact ⟨0, n, by omega, rfl, rfl, hn, by simp⟩
  case round =>
    obtain ⟨j, x, hj, rfl, rfl, hx, ht⟩ := hrel
    by_cases hlt : j < m
    · have hw := wrap_ten hx
      have hr := hx
      unfold inR at hr
      obtain ⟨k, hk⟩ : ∃ k, m - j = k + 1 := ⟨m - j - 1, by omega⟩
      rw [hk] at ht
      by_cases h10 : inR (x * 10)
      · have hin := h10
        unfold inR at hin
        obtain ⟨hwz, hdz⟩ := inR_div h10
        have hq : (Int.tdiv (x * 10) 10 == x) = true := by rw [hdz]; simp
        have HT := Lib.hid (ht.trans (tens_step x k h10))
        have H10 := Lib.hid h10
        clear ht hw hx h10
        go_wp2_with fail
        go_round
        case rel => exact ⟨j + 1, x * 10, by omega, by go_num, by go_num, H10.out, by rw [HT.out]; congr 1; omega⟩
        case measure => simp [intOf]; omega
      · have hq : (wrap64 (Int.tdiv (wrap64 (x * 10)) 10) == x) = false := by rw [wrap_tdiv, beq_eq_false_iff_ne]; exact fun e => h10 (hw.1 e)
        have HT := Lib.hid (ht.trans (tens_stop x k h10))
        clear ht hw hx h10
        go_wp2_with fail
        go_ret
        exact ⟨ret_bool (by rw [HT.out]; rfl), rfl⟩
    · obtain rfl : j = m := by omega
      have HT : Hid (tens n j = some x) := Lib.hid (by rw [ht, Nat.sub_self]; rfl)
      clear ht hx
      go_wp2_with fail
      go_ret
      exact ⟨ret_bool (by rw [HT.out]; rfl), rfl⟩
theorem specWhole (n e : Int) (w : World) (hn : inR n) (he : -20 ≤ e ∧ e ≤ 20) :
    Calls Tryd.prog 119 #[.int .i64 n, .int .i64 e] w fun r w' => r = .returned (.bool (decide (0 < e) && (tens n e.toNat).isSome)) ∧ w = w' := by
  by_cases h : 0 < e
  · obtain ⟨m, rfl⟩ := Int.eq_ofNat_of_zero_le (show 0 ≤ e by omega)
    refine (specWhole_pos n m w hn (by omega) (by omega)).mono ?_
    rintro r w' ⟨rfl, rfl⟩
    exact ⟨ret_bool (by rw [decide_eq_true h, Int.toNat_natCast]; rfl), rfl⟩
  · have hd : decide ((0 : Int) < e) = false := decide_eq_false h
    go_enter Tryd.func119, Tryd.ntmps119
    go_wp2_with fail
    go_loop [5] (fun i => i = .int .i64 0) (fun _ => 0)
    case atStart => exact rfl
    case round =>
      obtain rfl := hrel
      go_wp2_with fail
      go_ret
      exact ⟨ret_bool (by first | rfl | (rw [hd]; rfl)), rfl⟩

theorem text_iff (a b : ByteArray) : (a.toList == b.toList) = decide (a = b) := by
  rw [Bool.eq_iff_iff, decide_eq_true_iff, beq_iff_eq, ByteArray.toList_eq, ByteArray.toList_eq]
  constructor
  · intro h
    cases a; cases b
    simp only [ByteArray.mk.injEq]
    exact Array.toList_inj.1 h
  · intro h; rw [h]
theorem keyEq_bools (a b : V) : (((a.k == b.k) = true ∧ (a.n == b.n) = true ∧ (a.s.toList == b.s.toList) = true) ∧ keyEq a b) ∨ (((a.k == b.k) = false ∨ ((a.k == b.k) = true ∧ (a.n == b.n) = false) ∨ ((a.k == b.k) = true ∧ (a.n == b.n) = true ∧ (a.s.toList == b.s.toList) = false)) ∧ ¬ keyEq a b) := by
  unfold keyEq
  rw [text_iff]
  simp only [beq_iff_eq, beq_eq_false_iff_ne, decide_eq_true_iff, decide_eq_false_iff_not]
  by_cases h1 : a.k = b.k <;> by_cases h2 : a.n = b.n <;> by_cases h3 : a.s = b.s <;> simp [h1, h2, h3]
theorem pairsTo_step {R : V → V → Prop} {l : List V} {j : Nat} (hj : j < l.length) (he : j % 2 = 0) (h : pairsTo R l j) (hk : isKeyB l[j] = true) (hn : ∀ k (hk : k < j), k % 2 = 0 → ¬ R (l[k]'(by omega)) l[j]) : pairsTo R l (j + 2) := by
  intro i hi hlt hev
  by_cases e : i = j
  · subst e; exact ⟨hk, hn⟩
  · exact h i hi (by omega) hev
theorem pairsTo_end {R : V → V → Prop} {l : List V} {j : Nat} (hj : l.length ≤ j) (h : pairsTo R l j) : pairsTo R l l.length := fun i hi _ he => h i hi (by omega) he
theorem pairsTo_zero (R : V → V → Prop) (l : List V) : pairsTo R l 0 := fun i _ h => by omega

set_option maxHeartbeats 4000000 in
theorem specPairs (l : List V) (A : Option Addr) (cap : Nat) (w : World) (hl : l.length ≤ 1048576) (hat : Vs.at_ w 0 w.heap.size l A) :
    Calls Tryd.prog 121 #[.slice A l.length cap] w fun e w' => e = .returned (.bool (decide (pairsOk l))) ∧ Below w.heap.size w w' := by
  have HA := Lib.hid hat
  clear hat
  go_enter Tryd.func121, Tryd.ntmps121
  go_wp2_with fail
  go_loopw [3, 4] (fun i k wr => ∃ j : Nat, j ≤ l.length + 1 ∧ j % 2 = 0 ∧ i = .int .i64 j ∧ pairsTo keyEq l j ∧ Below w.heap.size w wr) (fun i _ _ => l.length + 2 - (intOf i).toNat)
  case atStart => exact ⟨0, by omega, rfl, rfl, pairsTo_zero _ _, Below.refl _ _⟩
  case round =>
    obtain ⟨j, hj, he, rfl, hp, hb⟩ := hrel
    have HP := Lib.hid hp
    clear hp
    by_cases hlt : j < l.length
    · obtain ⟨b, off, A', cap', eA, g1, g2, g3, ⟨c0, c1, c2, c3, c4⟩, g5⟩ := Vs.at_get j hlt (Vs.at_below HA.out hb (Nat.le_refl _))
      subst eA
      by_cases hkey : isKeyB l[j] = true
      · have hkk := hkey
        unfold isKeyB at hkk
        rw [decide_eq_true_iff] at hkk
        have HKEY := Lib.hid hkey
        clear hkey
        rcases (show (l[j].k != 5) = false ∨ ((l[j].k != 5) = true ∧ (l[j].k != 3) = false) by
          rcases hkk with h | h
          · left; rw [h]; rfl
          · right; rw [h]; exact ⟨rfl, rfl⟩) with hc | hc
        all_goals
          clear hkk
          go_wp2_with fail
          go_loopw [4] (fun k wq => ∃ m : Nat, m ≤ j + 1 ∧ m % 2 = 0 ∧ k = .int .i64 m ∧ (∀ q (hq : q < j), q < m → q % 2 = 0 → ¬ keyEq (l[q]'(by omega)) l[j]) ∧ Below w.heap.size w wq) (fun k _ => j + 2 - (intOf k).toNat)
          case atStart => exact ⟨0, by omega, rfl, rfl, fun q _ h => by omega, hb⟩
          case round =>
            obtain ⟨m, hm, hme, rfl, hnot, hbq⟩ := hrel
            have HNOT := Lib.hid hnot
            clear hnot
            by_cases hmj : m < j
            · have hmlt : m < l.length := by omega
              obtain ⟨b1, off1, A1, cap1, e1, k1, k2, k3, ⟨d0, d1, d2, d3, d4⟩, k5⟩ := Vs.at_get m hmlt (Vs.at_below HA.out hbq (Nat.le_refl _))
              obtain ⟨b2, off2, A2, cap2, e2, m1, m2, m3, ⟨f0, f1, f2, f3, f4⟩, m5⟩ := Vs.at_get j hlt (Vs.at_below HA.out hbq (Nat.le_refl _))
              injection e1 with e1
              injection e1 with e11 e12
              injection e2 with e2
              injection e2 with e21 e22
              subst e11 e12 e21 e22
              rcases keyEq_bools l[m] l[j] with ⟨⟨t1, t2, t3⟩, hq⟩ | ⟨ht, hq⟩
              · have HN : Hid (decide (pairsOk l) = false) := Lib.hid (decide_eq_false (fun h => (h.1 j hlt hlt he).2 m hmj hme hq))
                clear hq
                go_wp2_with fail
                go_quiet (fail)
                go_wp2_with fail
                go_ret
                exact ⟨ret_bool HN.out.symm, below_drewN hbq _⟩
              · have HQ := Lib.hid hq
                clear hq
                rcases ht with t1 | ⟨t1, t2⟩ | ⟨t1, t2, t3⟩
                all_goals
                  go_wp2_with fail
                  go_quiet (fail)
                  go_wp2_with fail
                  go_roundw
                  case rel => exact ⟨m + 2, by omega, by omega, by go_num, fun q hq1 hq2 hq3 => by
                    by_cases e : q = m
                    · subst e; exact HQ.out
                    · exact HNOT.out q hq1 (by omega) hq3, below_drewN hbq _⟩
                  case measure => simp [intOf]; omega
            · have HST := Lib.hid (pairsTo_step hlt he HP.out HKEY.out (fun k hk hke => HNOT.out k hk (by omega) hke))
              go_wp2_with fail
              go_roundw
              case rel => exact ⟨j + 2, by omega, by omega, by go_num, HST.out, hbq⟩
              case measure => simp [intOf]; omega
      · have hkk : ¬ (l[j].k = 5 ∨ l[j].k = 3) := by unfold isKeyB at hkey; rwa [decide_eq_true_iff] at hkey
        have hc1 : (l[j].k != 5) = true := by simp; omega
        have hc2 : (l[j].k != 3) = true := by simp; omega
        have HN : Hid (decide (pairsOk l) = false) := Lib.hid (decide_eq_false (fun h => hkey (h.1 j hlt hlt he).1))
        clear hkk hkey
        go_wp2_with fail
        go_ret
        exact ⟨ret_bool HN.out.symm, hb⟩
    · have HE : Hid (decide (pairsOk l) = (decide (l.length % 2 = 0) && decide (l.length ≤ 300))) := Lib.hid (by
        unfold pairsOk
        rw [show (pairsTo keyEq l l.length ∧ l.length % 2 = 0 ∧ l.length ≤ 300) = (l.length % 2 = 0 ∧ l.length ≤ 300) from propext ⟨fun h => h.2, fun h => ⟨pairsTo_end (by omega) HP.out, h⟩⟩]
        rw [Bool.decide_and])
      by_cases hev : l.length % 2 = 0
      · have hx : ((l.length : Int) % 2 == 0) = true := by rw [beq_iff_eq]; omega
        go_wp2_with fail
        go_ret
        exact ⟨ret_bool (by rw [HE.out, decide_eq_true hev, Bool.true_and]; exact decide_eq_decide.2 (by omega)), hb⟩
      · have hx : ((l.length : Int) % 2 == 0) = false := by rw [beq_eq_false_iff_ne]; omega
        go_wp2_with fail
        go_ret
        exact ⟨ret_bool (by rw [HE.out, decide_eq_false hev]; rfl), hb⟩
end Go.Proofs.YtbflkcldjjpioaaDoor

/-
  The reference's test of a value but for its kids' rightness.
-/
namespace Go.Proofs.YtbflkcldjjpioaaDoor
open Go.RowKit
set_option linter.unusedVariables false
set_option maxRecDepth 100000

theorem bl_q {w w1 : World} {o : Obj} {n : Nat} (h : Below ((w.alloc o).drewN n).heap.size ((w.alloc o).drewN n) w1) : Below w.heap.size w w1 :=
  (below_drewN ((Below.refl w.heap.size w).alloc (Nat.le_refl _) o) n).trans (h.mono (by show w.heap.size ≤ (w.alloc o).heap.size; simp))
theorem blk_q {w : World} {g n : Nat} {t : TypeId} {cs : Array Value} (h : Blk w g t cs) : Blk (w.drewN n) g t cs := h
theorem at_q {w : World} {o : Obj} {n : Nat} {l : List V} {A : Option Addr} (h : Vs.at_ w 0 w.heap.size l A) : Vs.at_ ((w.alloc o).drewN n) 0 ((w.alloc o).drewN n).heap.size l A :=
  Vs.at_more (Nat.le_refl _) (by show w.heap.size ≤ (w.alloc o).heap.size; simp) _ _ (Vs.at_keep (w := w.alloc o) (w' := (w.alloc o).drewN n) (fun _ _ _ => rfl) _ _ (Vs.at_alloc h (Nat.le_refl _) o))
theorem s_empty (s : ByteArray) : s.size = 0 ↔ s.toList = [] := by
  rw [ByteArray.toList_eq]
  constructor
  · intro h
    have : s.data.toList.length = 0 := by simpa using h
    exact List.length_eq_zero_iff.1 this
  · intro h
    have : s.data.toList.length = 0 := by rw [h]; rfl
    simpa using this
theorem len0 (n : Nat) : n = 0 ↔ ((n : Int) == 0) = true := by rw [beq_iff_eq]; omega
theorem len1 (n : Nat) : n = 1 ↔ ((n : Int) == 1) = true := by rw [beq_iff_eq]; omega
theorem sz2000 (n : Nat) : n ≤ 2000 ↔ (n : Int) ≤ 2000 := by omega
theorem own_k012 {v : V} (h : v.k = 0 ∨ v.k = 1 ∨ v.k = 2) : ownOk v ↔ v.n = 0 ∧ v.e = 0 ∧ v.s.toList = [] ∧ ((v.kids.length : Int) == 0) = true := by
  unfold ownOk nodeOk kidsOk
  rw [if_pos (by omega), if_neg (by omega), if_neg (by omega), if_neg (by omega), s_empty, len0]
  simp only [and_assoc]
theorem own_k3 {v : V} (h : v.k = 3) : ownOk v ↔ v.e = 0 ∧ v.s.toList = [] ∧ ((v.kids.length : Int) == 0) = true := by
  unfold ownOk nodeOk kidsOk
  rw [if_neg (by omega), if_pos (by omega), if_neg (by omega), if_neg (by omega), if_neg (by omega), s_empty, len0]
  simp only [and_assoc]
theorem own_k4 {v : V} (h : v.k = 4) : ownOk v ↔ decOk v.n v.e ∧ v.s.toList = [] ∧ ((v.kids.length : Int) == 0) = true := by
  unfold ownOk nodeOk kidsOk
  rw [if_neg (by omega), if_neg (by omega), if_pos (by omega), if_neg (by omega), if_neg (by omega), if_neg (by omega), s_empty, len0]
  simp only [and_assoc]
theorem own_k5 {v : V} (h : v.k = 5) : ownOk v ↔ v.n = 0 ∧ v.e = 0 ∧ textOk v.s = true ∧ (v.s.size : Int) ≤ 2000 ∧ ((v.kids.length : Int) == 0) = true := by
  unfold ownOk nodeOk kidsOk
  rw [if_neg (by omega), if_neg (by omega), if_neg (by omega), if_pos (by omega), if_neg (by omega), if_neg (by omega), if_neg (by omega), sz2000, len0]
  simp only [and_assoc]
theorem own_k6 {v : V} (h : v.k = 6) : ownOk v ↔ v.n = 0 ∧ v.e = 0 ∧ (v.s.size : Int) ≤ 2000 ∧ ((v.kids.length : Int) == 0) = true := by
  unfold ownOk nodeOk kidsOk
  rw [if_neg (by omega), if_neg (by omega), if_neg (by omega), if_neg (by omega), if_pos (by omega), if_neg (by omega), if_neg (by omega), if_neg (by omega), sz2000, len0]
  simp only [and_assoc]
theorem own_k7 {v : V} (h : v.k = 7) : ownOk v ↔ v.n = 0 ∧ v.e = 0 ∧ v.s.toList = [] := by
  unfold ownOk nodeOk kidsOk
  rw [if_pos (by omega), if_pos (by omega), s_empty]
  simp only [and_true]
theorem own_k8 {v : V} (h : v.k = 8) : ownOk v ↔ v.n = 0 ∧ v.e = 0 ∧ v.s.toList = [] ∧ pairsOk v.kids := by
  unfold ownOk nodeOk kidsOk
  rw [if_pos (by omega), if_neg (by omega), if_neg (by omega), if_pos (by omega), s_empty]
  simp only [and_assoc]
theorem own_k9 {v : V} (h : v.k = 9) : ownOk v ↔ (0 ≤ v.n ∧ v.n ≤ 1000000) ∧ v.e = 0 ∧ v.s.toList = [] ∧ ((v.kids.length : Int) == 1) = true := by
  unfold ownOk nodeOk kidsOk
  rw [if_neg (by omega), if_neg (by omega), if_neg (by omega), if_neg (by omega), if_neg (by omega), if_pos (by omega), if_neg (by omega), if_pos (by omega), s_empty, len1]
  simp only [and_assoc]
theorem dec_bool {n e : Int} (h1 : -20 ≤ e) (h2 : e ≤ 20) (h3 : e ≠ 0) (h4 : -999999999999999999 ≤ n) (h5 : n ≤ 999999999999999999) (h6 : ¬ Int.tmod n 10 = 0) : (!(decide (0 < e) && (tens n e.toNat).isSome)) = true ↔ decOk n e := by
  unfold decOk
  cases ht : tens n e.toNat with
  | none => simp [*]
  | some x => simp [*]
theorem own_else {v : V} (h : v.k < 0 ∨ 9 < v.k) : ¬ ownOk v := by
  unfold ownOk nodeOk
  rw [if_neg (by omega), if_neg (by omega), if_neg (by omega), if_neg (by omega), if_neg (by omega), if_neg (by omega)]
  exact fun h => h.1

set_option maxHeartbeats 4000000 in
theorem specOwn_0 (v : V) (A : Option Addr) (cap : Nat) (w : World) (hk : v.k = 0) (hl : v.kids.length ≤ 1048576) :
    Calls Tryd.prog 94 #[v.agg A cap] w fun e w' => e = .returned (.bool (decide (ownOk v))) ∧ Below w.heap.size w w' := by
  have HO := Lib.hid (own_k012 (.inl hk))
  unfold V.agg
  go_enter Tryd.func94, Tryd.ntmps94
  go_wp2_with fail
  go_quiet (fail)
  go_wp2_with fail
  all_goals go_ret
  all_goals refine ⟨ret_bool ?_, below_drewN ((Below.refl _ _).alloc (Nat.le_refl _) _) _⟩
  all_goals try generalize ((v.kids.length : Int) == 0) = bl at *
  all_goals first
    | (simp [HO.out, *]; done)
    | (simp [HO.out, *]; intro; omega)
    | (simp [HO.out, *]; cases v.s.toList <;> rfl)

set_option maxHeartbeats 4000000 in
theorem specOwn_1 (v : V) (A : Option Addr) (cap : Nat) (w : World) (hk : v.k = 1) (hl : v.kids.length ≤ 1048576) :
    Calls Tryd.prog 94 #[v.agg A cap] w fun e w' => e = .returned (.bool (decide (ownOk v))) ∧ Below w.heap.size w w' := by
  have HO := Lib.hid (own_k012 (.inr (.inl hk)))
  unfold V.agg
  go_enter Tryd.func94, Tryd.ntmps94
  go_wp2_with fail
  go_quiet (fail)
  go_wp2_with fail
  all_goals go_ret
  all_goals refine ⟨ret_bool ?_, below_drewN ((Below.refl _ _).alloc (Nat.le_refl _) _) _⟩
  all_goals try generalize ((v.kids.length : Int) == 0) = bl at *
  all_goals first
    | (simp [HO.out, *]; done)
    | (simp [HO.out, *]; intro; omega)
    | (simp [HO.out, *]; cases v.s.toList <;> rfl)

set_option maxHeartbeats 4000000 in
theorem specOwn_2 (v : V) (A : Option Addr) (cap : Nat) (w : World) (hk : v.k = 2) (hl : v.kids.length ≤ 1048576) :
    Calls Tryd.prog 94 #[v.agg A cap] w fun e w' => e = .returned (.bool (decide (ownOk v))) ∧ Below w.heap.size w w' := by
  have HO := Lib.hid (own_k012 (.inr (.inr hk)))
  unfold V.agg
  go_enter Tryd.func94, Tryd.ntmps94
  go_wp2_with fail
  go_quiet (fail)
  go_wp2_with fail
  all_goals go_ret
  all_goals refine ⟨ret_bool ?_, below_drewN ((Below.refl _ _).alloc (Nat.le_refl _) _) _⟩
  all_goals try generalize ((v.kids.length : Int) == 0) = bl at *
  all_goals first
    | (simp [HO.out, *]; done)
    | (simp [HO.out, *]; intro; omega)
    | (simp [HO.out, *]; cases v.s.toList <;> rfl)

set_option maxHeartbeats 4000000 in
theorem specOwn_3 (v : V) (A : Option Addr) (cap : Nat) (w : World) (hk : v.k = 3) (hl : v.kids.length ≤ 1048576) :
    Calls Tryd.prog 94 #[v.agg A cap] w fun e w' => e = .returned (.bool (decide (ownOk v))) ∧ Below w.heap.size w w' := by
  have HO := Lib.hid (own_k3 hk)
  unfold V.agg
  go_enter Tryd.func94, Tryd.ntmps94
  go_wp2_with fail
  go_quiet (fail)
  go_wp2_with fail
  all_goals go_ret
  all_goals refine ⟨ret_bool ?_, below_drewN ((Below.refl _ _).alloc (Nat.le_refl _) _) _⟩
  all_goals try generalize ((v.kids.length : Int) == 0) = bl at *
  all_goals first
    | (simp [HO.out, *]; done)
    | (simp [HO.out, *]; intro; omega)
    | (simp [HO.out, *]; cases v.s.toList <;> rfl)

set_option maxHeartbeats 4000000 in
theorem specOwn_6 (v : V) (A : Option Addr) (cap : Nat) (w : World) (hk : v.k = 6) (hl : v.kids.length ≤ 1048576) :
    Calls Tryd.prog 94 #[v.agg A cap] w fun e w' => e = .returned (.bool (decide (ownOk v))) ∧ Below w.heap.size w w' := by
  have HO := Lib.hid (own_k6 hk)
  unfold V.agg
  go_enter Tryd.func94, Tryd.ntmps94
  go_wp2_with fail
  go_quiet (fail)
  go_wp2_with fail
  all_goals go_ret
  all_goals refine ⟨ret_bool ?_, below_drewN ((Below.refl _ _).alloc (Nat.le_refl _) _) _⟩
  all_goals try generalize ((v.kids.length : Int) == 0) = bl at *
  all_goals first
    | (simp [HO.out, *]; done)
    | (simp [HO.out, *]; intro; omega)
    | (simp [HO.out, *]; cases v.s.toList <;> rfl)

set_option maxHeartbeats 4000000 in
theorem specOwn_7 (v : V) (A : Option Addr) (cap : Nat) (w : World) (hk : v.k = 7) (hl : v.kids.length ≤ 1048576) :
    Calls Tryd.prog 94 #[v.agg A cap] w fun e w' => e = .returned (.bool (decide (ownOk v))) ∧ Below w.heap.size w w' := by
  have HO := Lib.hid (own_k7 hk)
  unfold V.agg
  go_enter Tryd.func94, Tryd.ntmps94
  go_wp2_with fail
  go_quiet (fail)
  go_wp2_with fail
  all_goals go_ret
  all_goals refine ⟨ret_bool ?_, below_drewN ((Below.refl _ _).alloc (Nat.le_refl _) _) _⟩
  all_goals try generalize ((v.kids.length : Int) == 0) = bl at *
  all_goals first
    | (simp [HO.out, *]; done)
    | (simp [HO.out, *]; intro; omega)
    | (simp [HO.out, *]; cases v.s.toList <;> rfl)

set_option maxHeartbeats 4000000 in
theorem specOwn_5 (v : V) (A : Option Addr) (cap : Nat) (w : World) (hk : v.k = 5) (hl : v.kids.length ≤ 1048576) (hs : v.s.size ≤ 1048576) :
    Calls Tryd.prog 94 #[v.agg A cap] w fun e w' => e = .returned (.bool (decide (ownOk v))) ∧ Below w.heap.size w w' := by
  have HO := Lib.hid (own_k5 hk)
  unfold V.agg
  go_enter Tryd.func94, Tryd.ntmps94
  go_wp2_with fail
  go_quiet (fail)
  go_wp2_with (go_at_call 120; refine (specTextOk v.s _ hs).mono ?_; rintro e w1 ⟨rfl, hb1⟩; obtain ⟨p0, p1, p2, p3, p4⟩ := ((blk_q (Blk.new _ _ _)).below hb1 (by simp)).five; have hq := hb1.size)
  all_goals go_ret
  all_goals refine ⟨ret_bool ?_, by first | exact below_drewN ((Below.refl _ _).alloc (Nat.le_refl _) _) _ | exact bl_q hb1⟩
  all_goals try generalize ((v.kids.length : Int) == 0) = bl at *
  all_goals try generalize ((v.kids.length : Int) == 1) = bl at *
  all_goals first
    | (simp [HO.out, *]; done)
    | (simp [HO.out, *]; intro; omega)
    | (simp [HO.out, *]; cases v.s.toList <;> rfl)

set_option maxHeartbeats 4000000 in
theorem specOwn_8 (v : V) (A : Option Addr) (cap : Nat) (w : World) (hk : v.k = 8) (hl : v.kids.length ≤ 1048576) (hat : Vs.at_ w 0 w.heap.size v.kids A) :
    Calls Tryd.prog 94 #[v.agg A cap] w fun e w' => e = .returned (.bool (decide (ownOk v))) ∧ Below w.heap.size w w' := by
  have HO := Lib.hid (own_k8 hk)
  have HA := Lib.hid hat
  clear hat
  unfold V.agg
  go_enter Tryd.func94, Tryd.ntmps94
  go_wp2_with fail
  go_quiet (fail)
  go_wp2_with (go_at_call 121; refine (specPairs v.kids A cap _ hl (at_q HA.out)).mono ?_; rintro e w1 ⟨rfl, hb1⟩)
  all_goals go_ret
  all_goals refine ⟨ret_bool ?_, by first | exact below_drewN ((Below.refl _ _).alloc (Nat.le_refl _) _) _ | exact bl_q hb1⟩
  all_goals try generalize ((v.kids.length : Int) == 0) = bl at *
  all_goals try generalize ((v.kids.length : Int) == 1) = bl at *
  all_goals first
    | (simp [HO.out, *]; done)
    | (simp [HO.out, *]; intro; omega)
    | (simp [HO.out, *]; cases v.s.toList <;> rfl)

set_option maxHeartbeats 4000000 in
theorem specOwn_9 (v : V) (A : Option Addr) (cap : Nat) (w : World) (hk : v.k = 9) (hl : v.kids.length ≤ 1048576) :
    Calls Tryd.prog 94 #[v.agg A cap] w fun e w' => e = .returned (.bool (decide (ownOk v))) ∧ Below w.heap.size w w' := by
  have HO := Lib.hid (own_k9 hk)
  unfold V.agg
  go_enter Tryd.func94, Tryd.ntmps94
  go_wp2_with fail
  go_quiet (fail)
  go_wp2_with (go_at_call 27; go_in)
  all_goals go_ret
  all_goals refine ⟨ret_bool ?_, by first | exact below_drewN ((Below.refl _ _).alloc (Nat.le_refl _) _) _ | exact bl_q hb1⟩
  all_goals try generalize ((v.kids.length : Int) == 0) = bl at *
  all_goals try generalize ((v.kids.length : Int) == 1) = bl at *
  all_goals first
    | (simp [HO.out, *]; done)
    | (simp [HO.out, *]; intro; omega)
    | (simp [HO.out, *]; cases v.s.toList <;> rfl)

set_option maxHeartbeats 4000000 in
theorem specOwn_4 (v : V) (A : Option Addr) (cap : Nat) (w : World) (hk : v.k = 4) (hl : v.kids.length ≤ 1048576) :
    Calls Tryd.prog 94 #[v.agg A cap] w fun e w' => e = .returned (.bool (decide (ownOk v))) ∧ Below w.heap.size w w' := by
  have HO := Lib.hid (own_k4 hk)
  unfold V.agg
  go_enter Tryd.func94, Tryd.ntmps94
  go_wp2_with fail
  go_quiet (fail)
  go_wp2_with (first | (go_at_call 27; go_in) | (go_at_call 119; refine (specWhole v.n v.e _ (by unfold inR; omega) (by omega)).mono ?_; rintro e w1 ⟨rfl, rfl⟩))
  all_goals go_ret
  all_goals refine ⟨ret_bool ?_, below_drewN ((Below.refl _ _).alloc (Nat.le_refl _) _) _⟩
  all_goals first
    | (refine Eq.symm (decide_eq_false (fun h => ?_)); have h := HO.out.1 h; obtain ⟨⟨q1, q2, q3, q4, q5, q6, q7⟩, q8, q9⟩ := h; first | omega | (rw [beq_iff_eq] at q9; simp_all; done) | (simp_all; done))
    | (have hb := dec_bool (n := v.n) (e := v.e) (by omega) (by omega) (by omega) (by omega) (by omega) (by assumption)
       rw [Bool.eq_iff_iff, decide_eq_true_iff, HO.out, ← hb]
       simp [*])

theorem specOwn_else (v : V) (A : Option Addr) (cap : Nat) (w : World) (hk : v.k < 0 ∨ 9 < v.k) :
    Calls Tryd.prog 94 #[v.agg A cap] w fun e w' => e = .returned (.bool (decide (ownOk v))) ∧ Below w.heap.size w w' := by
  have HO := Lib.hid (own_else hk)
  have q0 : (v.k == 0) = false := by rw [beq_eq_false_iff_ne]; omega
  have q1 : (v.k == 1) = false := by rw [beq_eq_false_iff_ne]; omega
  have q2 : (v.k == 2) = false := by rw [beq_eq_false_iff_ne]; omega
  have q3 : (v.k == 3) = false := by rw [beq_eq_false_iff_ne]; omega
  have q4 : (v.k == 4) = false := by rw [beq_eq_false_iff_ne]; omega
  have q5 : (v.k == 5) = false := by rw [beq_eq_false_iff_ne]; omega
  have q6 : (v.k == 6) = false := by rw [beq_eq_false_iff_ne]; omega
  have q7 : (v.k == 7) = false := by rw [beq_eq_false_iff_ne]; omega
  have q8 : (v.k == 8) = false := by rw [beq_eq_false_iff_ne]; omega
  have q9 : (v.k == 9) = false := by rw [beq_eq_false_iff_ne]; omega
  clear hk
  unfold V.agg
  go_enter Tryd.func94, Tryd.ntmps94
  go_wp2_with fail
  go_quiet (fail)
  go_wp2_with fail
  go_ret
  exact ⟨ret_bool (decide_eq_false HO.out).symm, below_drewN ((Below.refl _ _).alloc (Nat.le_refl _) _) _⟩
theorem specOwn (v : V) (A : Option Addr) (cap : Nat) (w : World) (hl : v.kids.length ≤ 1048576) (hs : v.s.size ≤ 1048576) (hat : Vs.at_ w 0 w.heap.size v.kids A) :
    Calls Tryd.prog 94 #[v.agg A cap] w fun e w' => e = .returned (.bool (decide (ownOk v))) ∧ Below w.heap.size w w' := by
  rcases (show v.k = 0 ∨ v.k = 1 ∨ v.k = 2 ∨ v.k = 3 ∨ v.k = 4 ∨ v.k = 5 ∨ v.k = 6 ∨ v.k = 7 ∨ v.k = 8 ∨ v.k = 9 ∨ (v.k < 0 ∨ 9 < v.k) by omega) with h | h | h | h | h | h | h | h | h | h | h
  · exact specOwn_0 v A cap w h hl
  · exact specOwn_1 v A cap w h hl
  · exact specOwn_2 v A cap w h hl
  · exact specOwn_3 v A cap w h hl
  · exact specOwn_4 v A cap w h hl
  · exact specOwn_5 v A cap w h hl hs
  · exact specOwn_6 v A cap w h hl
  · exact specOwn_7 v A cap w h hl
  · exact specOwn_8 v A cap w h hl hat
  · exact specOwn_9 v A cap w h hl
  · exact specOwn_else v A cap w h
end Go.Proofs.YtbflkcldjjpioaaDoor

/-
  ValueOk of the reference.
-/
namespace Go.Proofs.YtbflkcldjjpioaaDoor
open Go.RowKit
set_option linter.unusedVariables false
set_option maxRecDepth 100000

theorem Vs.weight_get {l : List V} (i : Nat) (h : i < l.length) : (l[i]).weight + 1 ≤ Vs.weight l := by
  have h1 := Vs.weight_step l i h
  have h2 := Vs.weight_take l (i + 1)
  omega
theorem V.weight_kids (v : V) : v.s.size ≤ v.weight ∧ v.kids.length ≤ v.weight ∧ Vs.weight v.kids ≤ v.weight := by
  have := V.weight_eq v
  have := Vs.len_le v.kids
  omega
def SpecRightSaid (v : V) : Prop := ∀ (d : Int) (A : Option Addr) (cap : Nat) (w : World), v.weight ≤ 1048576 → -1 ≤ d → d ≤ 12 → Vs.at_ w 0 w.heap.size v.kids A →
    Calls Tryd.prog 60 #[v.agg A cap, .int .i64 d] w fun e w' => e = .returned (.bool (decide (V.right d v))) ∧ Below w.heap.size w w'

set_option maxHeartbeats 2000000 in
theorem specRight_step (v : V) (hk : ∀ i (h : i < v.kids.length), SpecRightSaid v.kids[i]) : SpecRightSaid v := by
  intro d A cap w hw hd1 hd2 hat
  obtain ⟨hw1, hw2, hw3⟩ := V.weight_kids v
  have HE := Lib.hid (V.right_eq d v)
  by_cases hd : d < 0
  · have HN : Hid (¬ V.right d v) := Lib.hid (fun h => by have := (HE.out.1 h).1; omega)
    unfold V.agg
    go_enter Tryd.func60, Tryd.ntmps60
    go_wp2_with fail
    go_ret
    exact ⟨ret_bool (decide_eq_false HN.out).symm, (Below.refl _ _).alloc (Nat.le_refl _) _⟩
  · have hdd : decide (d < 0) = false := decide_eq_false hd
    have hC := fun (i : Nat) (h : i < v.kids.length) (A' : Option Addr) (c : Nat) (w' : World) (h1 : Vs.at_ w' 0 w'.heap.size (v.kids[i]).kids A') => hk i h (d - 1) A' c w' (by have := Vs.weight_get i h; omega) (by omega) (by omega) h1
    have HC := Lib.hid hC
    have HA := Lib.hid hat
    clear hC hk hat
    unfold V.agg
    go_enter Tryd.func60, Tryd.ntmps60
    go_wp2_with fail
    refine (specOwn v A cap _ (by omega) (by omega) (Vs.at_more (Nat.le_refl _) (by simp) _ _ (Vs.at_alloc HA.out (Nat.le_refl _) _))).mono ?_
    rintro e w1 ⟨rfl, hb1⟩
    have B1 := (Blk.new _ _ _).below hb1 (by simp)
    have b1 : Below w.heap.size w w1 := ((Below.refl _ w).alloc (Nat.le_refl _) _).trans (hb1.mono (by simp))
    clear hb1
    by_cases ho : ownOk v
    · rw [show decide (ownOk v) = true from decide_eq_true ho]
      have HO := Lib.hid ho
      clear ho
      go_wp2_with fail
      go_loopw [5] (fun i wr => ∃ j : Nat, j ≤ v.kids.length ∧ i = .int .i64 j ∧ Vs.right (d - 1) (v.kids.take j) ∧ Blk wr w.heap.size 34 #[.int .i64 v.k, .int .i64 v.n, .int .i64 v.e, .string v.s, .slice A v.kids.length cap] ∧ Below w.heap.size w wr) (fun i _ => v.kids.length - (intOf i).toNat)
      case atStart => exact ⟨0, Nat.zero_le _, rfl, by simp [Vs.right], B1, b1⟩
      case round =>
        obtain ⟨j, hj, rfl, hr, B, hb⟩ := hrel
        have HR := Lib.hid hr
        clear hr
        have b4 : wr.cell? ⟨w.heap.size, 4, none⟩ = some (.slice A v.kids.length cap) := B.cell 4
        by_cases hlt : j < v.kids.length
        · obtain ⟨b, off, A', cap', rfl, g1, g2, g3, ⟨c0, c1, c2, c3, c4⟩, g5⟩ := Vs.at_get j hlt (Vs.at_below HA.out hb (Nat.le_refl _))
          go_wp2_with fail
          refine (HC.out j hlt A' cap' _ (Vs.at_more (Nat.le_refl _) hb.size _ _ g5)).mono ?_
          rintro e w2 ⟨rfl, hb2⟩
          have hbw : Below w.heap.size w w2 := hb.trans (hb2.mono hb.size)
          have B' := B.below hb2 B.lt
          clear c0 c1 c2 c3 c4 b4
          by_cases hv : V.right (d - 1) v.kids[j]
          · rw [show decide (V.right (d - 1) v.kids[j]) = true from decide_eq_true hv]
            have HV := Lib.hid (Vs.right_step (d - 1) v.kids j hlt HR.out hv)
            clear hv
            go_wp2_with fail
            go_roundw
            case rel => exact ⟨j + 1, by omega, by go_num, HV.out, B', hbw⟩
            case measure => simp [intOf]; omega
          · rw [show decide (V.right (d - 1) v.kids[j]) = false from decide_eq_false hv]
            have HN : Hid (¬ V.right d v) := Lib.hid (fun h => hv ((Vs.right_iff _ _).1 (HE.out.1 h).2.2 j hlt))
            clear hv
            go_wp2_with fail
            go_ret
            exact ⟨ret_bool (decide_eq_false HN.out).symm, hbw⟩
        · obtain rfl : j = v.kids.length := by omega
          have HY : Hid (V.right d v) := Lib.hid (HE.out.2 ⟨by omega, HO.out, Vs.right_take _ _ HR.out⟩)
          go_wp2_with fail
          go_ret
          exact ⟨ret_bool (decide_eq_true HY.out).symm, hb⟩
    · rw [show decide (ownOk v) = false from decide_eq_false ho]
      have HN : Hid (¬ V.right d v) := Lib.hid (fun h => ho (HE.out.1 h).2.1)
      clear ho
      go_wp2_with fail
      go_ret
      exact ⟨ret_bool (decide_eq_false HN.out).symm, b1⟩
theorem specRight : ∀ v, SpecRightSaid v := V.all specRight_step

set_option maxHeartbeats 2000000 in
theorem specValueOk (v : V) (A : Option Addr) (cap : Nat) (w : World) (hw : v.weight ≤ 1048576) (hat : Vs.at_ w 0 w.heap.size v.kids A) :
    Calls Tryd.prog 34 #[v.agg A cap] w fun e w' => e = .returned (.bool (decide (okV v))) ∧ Below w.heap.size w w' := by
  have HA := Lib.hid hat
  have hn : v.nodes ≤ 1048577 := by have := V.nodes_weight v; omega
  clear hat
  unfold V.agg
  go_enter Tryd.func34, Tryd.ntmps34
  go_wp2_with fail
  refine (specRight v 12 A cap _ hw (by omega) (by omega) (Vs.at_more (Nat.le_refl _) (by simp) _ _ (Vs.at_alloc HA.out (Nat.le_refl _) _))).mono ?_
  rintro e w1 ⟨rfl, hb1⟩
  obtain ⟨p0, p1, p2, p3, p4⟩ := ((Blk.new _ _ _).below hb1 (by simp)).five
  have b1 : Below w.heap.size w w1 := ((Below.refl _ w).alloc (Nat.le_refl _) _).trans (hb1.mono (by simp))
  by_cases hr : V.right 12 v
  · rw [show decide (V.right 12 v) = true from decide_eq_true hr]
    have HK : Hid (decide (okV v) = decide ((v.nodes : Int) ≤ 300)) := Lib.hid (decide_eq_decide.2 ⟨fun h => by have := h.2; omega, fun h => ⟨hr, by omega⟩⟩)
    clear hr hb1
    go_wp2_with fail
    refine (specNodes v A cap _ hn (Vs.at_more (Nat.le_refl _) b1.size _ _ (Vs.at_below HA.out b1 (Nat.le_refl _)))).mono ?_
    rintro e w2 ⟨rfl, hb2⟩
    go_wp2_with fail
    go_ret
    exact ⟨ret_bool HK.out.symm, b1.trans (hb2.mono b1.size)⟩
  · rw [show decide (V.right 12 v) = false from decide_eq_false hr]
    have HK : Hid (decide (okV v) = false) := Lib.hid (decide_eq_false fun h => hr h.1)
    clear hr hb1
    go_wp2_with fail
    go_ret
    exact ⟨ret_bool HK.out.symm, b1⟩
end Go.Proofs.YtbflkcldjjpioaaDoor

/-
  What a call keeps that may write into some blocks alone.
-/
namespace Go.Proofs.YtbflkcldjjpioaaDoor
open Go.RowKit
set_option linter.unusedVariables false
set_option linter.unusedSimpArgs false

/-- Only blocks of D may have changed, and what is D's behind it was D's or is new. -/
structure Keep (D : World → Nat → Prop) (w w' : World) : Prop where
  os : w'.os = w.os
  tape : w'.tape = w.tape
  output : w'.output = w.output
  size : w.heap.size ≤ w'.heap.size
  block : ∀ k, k < w.heap.size → ¬ D w k → w'.heap[k]? = w.heap[k]? ∧ ¬ D w' k
theorem Keep.trans {D : World → Nat → Prop} {a b c : World} (h : Keep D a b) (k : Keep D b c) : Keep D a c :=
  ⟨k.os.trans h.os, k.tape.trans h.tape, k.output.trans h.output, Nat.le_trans h.size k.size, fun i hi hd => by
    obtain ⟨h1, h2⟩ := h.block i hi hd
    obtain ⟨k1, k2⟩ := k.block i (Nat.lt_of_lt_of_le hi h.size) h2
    exact ⟨k1.trans h1, k2⟩⟩
theorem Keep.refl {D : World → Nat → Prop} (w : World) : Keep D w w := ⟨rfl, rfl, rfl, Nat.le_refl _, fun _ _ h => ⟨rfl, h⟩⟩

theorem Keep.below {D : World → Nat → Prop} {w w0 w1 : World} {B : Nat} (h : Keep D w0 w1) (hb : Below B w w0) (hB : B ≤ w0.heap.size) (hd : ∀ k, k < B → ¬ D w0 k) : Below B w w1 :=
  ⟨h.os.trans hb.os, h.tape.trans hb.tape, h.output.trans hb.output, Nat.le_trans hb.size h.size, fun k hk => (h.block k (Nat.lt_of_lt_of_le hk hB) (hd k hk)).1.trans (hb.block k hk)⟩
theorem Keep.at_ {D : World → Nat → Prop} {w w' : World} (h : Keep D w w') {lo hi : Nat} {l : List V} {A : Option Addr} (ha : Vs.at_ w lo hi l A) (hh : hi ≤ w.heap.size) (hd : ∀ k, k < hi → ¬ D w k) : Vs.at_ w' lo hi l A :=
  Vs.at_keep (fun p _ hp => World.cell?_of_block (h.block p.block (by omega) (hd _ hp)).1) _ _ ha
theorem Keep.blk {D : World → Nat → Prop} {w w' : World} (h : Keep D w w') {g : Nat} {t : TypeId} {cs : Array Value} (hb : Blk w g t cs) (hd : ¬ D w g) : Blk w' g t cs ∧ ¬ D w' g :=
  ⟨(h.block g hb.lt hd).1.trans hb, (h.block g hb.lt hd).2⟩

theorem Blk.set1 {w : World} {g : Nat} {t : TypeId} {u : Value} (h : Blk w g t #[u]) (u' : Value) : Blk (w.setCell ⟨g, 0, none⟩ u') g t #[u'] := one_setCell h
/-- A store into the one captured variable. -/
theorem keep_set1 {g : Nat} {w : World} {a : World} (h : Keep (fun _ k => k = g) a w) (u : Value) : Keep (fun _ k => k = g) a (w.setCell ⟨g, 0, none⟩ u) :=
  ⟨h.os, h.tape, h.output, by simpa using h.size, fun k hk hd => ⟨(Below.heap_setCell w ⟨g, 0, none⟩ u k (by simpa using hd)).trans (h.block k hk hd).1, hd⟩⟩
theorem keep_alloc1 {g : Nat} {a w : World} (h : Keep (fun _ k => k = g) a w) (o : Obj) : Keep (fun _ k => k = g) a (w.alloc o) :=
  ⟨h.os, h.tape, h.output, Nat.le_trans h.size (by simp), fun k hk hd => ⟨(Below.heap_alloc w o k (Nat.lt_of_lt_of_le hk h.size)).trans (h.block k hk hd).1, hd⟩⟩
end Go.Proofs.YtbflkcldjjpioaaDoor

/-
  The program's isValue and ValueOk.
-/
namespace Go.Proofs.YtbflkcldjjpioaaDoor
open Go.RowKit
set_option linter.unusedVariables false
set_option maxRecDepth 100000
set_option linter.unusedSimpArgs false

def insV (L : Nat) (d : Int) (l : List V) : Prop := Vs.nodes l ≤ L ∧ Vs.rightI (12 - (d + 1)) l
theorem inV_no1 {d : Int} {v : V} : ¬ inV 0 d v := fun h => by have := h.1; have := V.nodes_pos v; omega
theorem inV_no2 {L : Nat} {d : Int} {v : V} (hd : 12 < d) : ¬ inV L d v := fun h => by have := ((V.rightI_eq _ _).1 h.2).1; omega
theorem inV_no3 {L : Nat} {d : Int} {v : V} (hl : L < v.kids.length + 1) : ¬ inV L d v := fun h => by have := h.1; have := V.nodes_eq v; have := Vs.len_nodes v.kids; omega
theorem inV_no4 {L : Nat} {d : Int} {v : V} (hn : ¬ nodeOk v) : ¬ inV L d v := fun h => hn ((V.rightI_eq _ _).1 h.2).2.1
theorem inV_no5 {L : Nat} {d : Int} {v : V} (hn : ¬ kidsI v) : ¬ inV L d v := fun h => hn ((V.rightI_eq _ _).1 h.2).2.2.1
theorem inV_iff {L : Nat} {d : Int} {v : V} (hL : 1 ≤ L) (hd : d ≤ 12) (hn : nodeOk v) (hk : kidsI v) : inV L d v ↔ insV (L - 1) d v.kids := by
  unfold inV insV
  rw [V.rightI_eq, V.nodes_eq, show 12 - d - 1 = 12 - (d + 1) by omega]
  constructor
  · rintro ⟨h1, _, _, _, h2⟩; exact ⟨by omega, h2⟩
  · rintro ⟨h1, h2⟩; exact ⟨by omega, by omega, hn, hk, h2⟩
theorem insV_step {L : Nat} {d : Int} {l : List V} {j : Nat} (hj : j < l.length) (h : insV L d (l.take j)) (hv : inV (L - Vs.nodes (l.take j)) (d + 1) l[j]) : insV L d (l.take (j + 1)) := by
  have h1 := hv.1
  have h2 := h.1
  exact ⟨by rw [Vs.nodes_step l j hj]; omega, Vs.rightI_step _ l j hj h.2 hv.2⟩
theorem insV_no {L : Nat} {d : Int} {l : List V} {j : Nat} (hj : j < l.length) (hv : ¬ inV (L - Vs.nodes (l.take j)) (d + 1) l[j]) : ¬ insV L d l := fun h => hv ⟨by
    have h1 := h.1
    have h2 := Vs.nodes_step l j hj
    have h3 := Vs.nodes_take l (j + 1)
    omega, (Vs.rightI_iff _ _).1 h.2 j hj⟩
/-- The frame of a value's test: its three new blocks, and the count one less. -/
theorem val_frame {w : World} {p : Nat} {tv ti tp : TypeId} {cs : Array Value} {u u' d q : Value} (hB : Blk w p ti #[u]) :
    ∃ w3, w3 = ((((w.alloc (.cells cs tv)).alloc (.cells #[d] ti)).alloc (.cells #[q] tp)).setCell ⟨p, 0, none⟩ u') ∧ Blk w3 w.heap.size tv cs ∧ Blk w3 (w.heap.size + 1) ti #[d] ∧ Blk w3 (w.heap.size + 1 + 1) tp #[q] ∧ Blk w3 p ti #[u'] ∧ Keep (fun _ k => k = p) w w3 := by
  have hlt := hB.lt
  refine ⟨_, rfl, ?_, ?_, ?_, ?_, ?_⟩
  · exact (Below.heap_setCell _ ⟨p, 0, none⟩ u' _ (by simp; omega)).trans (((Blk.new w _ _).alloc _).alloc _)
  · have h := (Blk.new (w.alloc (.cells cs tv)) ti #[d]).alloc (.cells #[q] tp)
    rw [show (w.alloc (.cells cs tv)).heap.size = w.heap.size + 1 by simp] at h
    exact (Below.heap_setCell _ ⟨p, 0, none⟩ u' _ (by simp; omega)).trans h
  · have h := Blk.new ((w.alloc (.cells cs tv)).alloc (.cells #[d] ti)) tp #[q]
    rw [show ((w.alloc (.cells cs tv)).alloc (.cells #[d] ti)).heap.size = w.heap.size + 1 + 1 by simp] at h
    exact (Below.heap_setCell _ ⟨p, 0, none⟩ u' _ (by simp; omega)).trans h
  · exact (((hB.alloc _).alloc _).alloc _).set1 u'
  · exact keep_set1 (keep_alloc1 (keep_alloc1 (keep_alloc1 (Keep.refl w) _) _) _) u'

def ImplValSaid (v : V) : Prop := ∀ (A : Option Addr) (cap L : Nat) (d : Int) (p : Nat) (W w : World), v.weight ≤ 1048576 → L ≤ 300 → 0 ≤ d → d ≤ 13 → Tabs W → Vs.at_ W 0 W.heap.size v.kids A →
    Below W.heap.size W w → W.heap.size ≤ p → Blk w p 3 #[.int .i64 L] →
    Calls Tryd.prog 93 #[v.agg A cap, .int .i64 d, .pointer (some ⟨p, 0, none⟩)] w fun e w' =>
      e = .returned (.bool (decide (inV L d v))) ∧ (inV L d v → Blk w' p 3 #[.int .i64 ((L - v.nodes : Nat) : Int)]) ∧ Keep (fun _ k => k = p) w w'

set_option maxHeartbeats 1000000 in
theorem implKid (v : V) (hk : ImplValSaid v) (A : Option Addr) (cap L : Nat) (d : Int) (p gd gl : Nat) (W w : World) (hw : v.weight ≤ 1048576) (hL : L ≤ 300) (hd0 : 0 ≤ d) (hd1 : d ≤ 12) (hT : Tabs W) (hat : Vs.at_ W 0 W.heap.size v.kids A)
    (hb : Below W.heap.size W w) (hp : W.heap.size ≤ p) (hB : Blk w p 3 #[.int .i64 L]) (hBd : Blk w gd 3 #[.int .i64 d]) (hBl : Blk w gl 94 #[.pointer (some ⟨p, 0, none⟩)]) :
    Calls Tryd.prog 118 #[v.agg A cap, .pointer (some ⟨gd, 0, none⟩), .pointer (some ⟨gl, 0, none⟩)] w fun e w' =>
      e = .returned (.bool (!decide (inV L (d + 1) v))) ∧ (inV L (d + 1) v → Blk w' p 3 #[.int .i64 ((L - v.nodes : Nat) : Int)]) ∧ Keep (fun _ k => k = p) w w' := by
  have hd := hBd.cell 0
  have hl := hBl.cell 0
  have ld := hBd.lt
  have ll := hBl.lt
  have HC := Lib.hid (fun w' h1 h2 => hk A cap L (d + 1) p W w' hw hL (by omega) (by omega) hT hat h1 hp h2)
  have HB := Lib.hid hB
  have HW := Lib.hid hb
  have hbs := hb.size
  clear hk hT hat hB hBd hBl hb
  unfold V.agg
  unfold V.agg at HC
  go_enter Tryd.func118, Tryd.ntmps118
  go_wp2_with fail
  refine (HC.out _ (HW.out.alloc hbs _) (HB.out.alloc _)).mono ?_
  rintro e w1 ⟨rfl, h1, h2⟩
  have H1 := Lib.hid h1
  have H2 := Lib.hid ((keep_alloc1 (Keep.refl w) _).trans h2)
  clear h1 h2
  go_wp2_with fail
  go_ret
  exact ⟨rfl, H1.out, H2.out⟩

theorem kidEnters : ∀ (args : Array Value) (w : World), (callFunc 118 args).run Tryd.prog w = .ok (.enter 118 args) w :=
  enters_of Tryd.func118 (by kernel_rfl) rfl

/-- What holds behind j kids. -/
def KRel (l : List V) (L : Nat) (d : Int) (p : Nat) (w : World) (j : Nat) (wr : World) : Prop :=
  insV L d (l.take j) ∧ Blk wr p 3 #[.int .i64 ((L - Vs.nodes (l.take j) : Nat) : Int)] ∧ Keep (fun _ k => k = p) w wr

set_option maxHeartbeats 2000000 in
theorem implKids_index (l : List V) (hk : ∀ i (h : i < l.length), ImplValSaid l[i]) (A : Option Addr) (cap L : Nat) (d : Int) (p gd gl : Nat) (W w : World) (hw : Vs.weight l ≤ 1048576) (hL : L ≤ 300) (hd0 : 0 ≤ d) (hd1 : d ≤ 12) (hT : Tabs W) (hat : Vs.at_ W 0 W.heap.size l A)
    (hb : Below W.heap.size W w) (hp : W.heap.size ≤ p) (hB : Blk w p 3 #[.int .i64 L]) (hBd : Blk w gd 3 #[.int .i64 d]) (hBl : Blk w gl 94 #[.pointer (some ⟨p, 0, none⟩)]) (hgd : gd ≠ p) (hgl : gl ≠ p) :
    Calls Tryd.prog 139 #[.slice A l.length cap, .func (Fn.func 118) #[] #[.pointer (some ⟨gd, 0, none⟩), .pointer (some ⟨gl, 0, none⟩)]] w fun e w' =>
      ∃ r : Int, e = .returned (.int .i64 r) ∧ ((insV L d l ∧ r = -1 ∧ Blk w' p 3 #[.int .i64 ((L - Vs.nodes l : Nat) : Int)]) ∨ (¬ insV L d l ∧ 0 ≤ r)) ∧ Keep (fun _ k => k = p) w w' := by
  have hl : l.length ≤ 1048576 := by have := Vs.len_le l; omega
  have HC := Lib.hid (fun (i : Nat) (h : i < l.length) (A' : Option Addr) (c M : Nat) (w' : World) (h0 : M ≤ 300) (h1 : Vs.at_ W 0 W.heap.size (l[i]).kids A') (h2 : Below W.heap.size W w') (h3 : Blk w' p 3 #[.int .i64 M]) (h4 : Blk w' gd 3 #[.int .i64 d]) (h5 : Blk w' gl 94 #[.pointer (some ⟨p, 0, none⟩)]) => implKid l[i] (hk i h) A' c M d p gd gl W w' (by have := Vs.weight_get i h; omega) h0 hd0 hd1 hT h1 h2 hp h3 h4 h5)
  have HA := Lib.hid hat
  have HW := Lib.hid hb
  have hbs := hb.size
  have h0 : KRel l L d p w 0 w := ⟨⟨by simp [Vs.nodes], by simp [Vs.rightI]⟩, by simpa [Vs.nodes] using hB, Keep.refl w⟩
  have H0 := Lib.hid h0
  have HBD := Lib.hid hBd
  have HBL := Lib.hid hBl
  have hE := kidEnters
  clear hk hT hat hB hBd hBl hb h0
  go_enter Tryd.func139, Tryd.ntmps139
  go_wp2_with fail
  go_loopw [8] (fun i wr => ∃ j : Nat, j ≤ l.length ∧ i = .int .i64 j ∧ KRel l L d p w j wr) (fun i _ => l.length - (intOf i).toNat)
  case atStart => exact ⟨0, Nat.zero_le _, rfl, H0.out⟩
  case round =>
    obtain ⟨j, hj, rfl, hr⟩ := hrel
    have HR := Lib.hid hr
    clear hr
    by_cases hlt : j < l.length
    · have hbr : Below W.heap.size W wr := HR.out.2.2.below HW.out hbs (fun k hk => by omega)
      obtain ⟨b, off, A', cap', rfl, g1, g2, g3, ⟨c0, c1, c2, c3, c4⟩, g5⟩ := Vs.at_get j hlt (Vs.at_below HA.out hbr (Nat.le_refl _))
      have hg5 := (Vs.at_get j hlt HA.out)
      obtain ⟨b', off', A'', cap'', e1, _, _, _, ⟨_, _, _, _, d4⟩, g6⟩ := hg5
      injection e1 with e1
      injection e1 with e11 e12
      subst e11 e12
      have hsame : some (Value.slice A'' (l[j]).kids.length cap'') = some (Value.slice A' (l[j]).kids.length cap') := by rw [← d4, ← c4]; exact (hbr.cell g2).symm
      injection hsame with hsame
      injection hsame with hs1 hs2 hs3
      subst hs1
      have G6 := Lib.hid g6
      have HBR := Lib.hid hbr
      clear g5 g6 d4 hbr
      go_wp2_with fail
      refine (HC.out j hlt A'' cap' (L - Vs.nodes (l.take j)) wr (by omega) G6.out HBR.out HR.out.2.1 (HR.out.2.2.blk HBD.out hgd).1 (HR.out.2.2.blk HBL.out hgl).1).mono ?_
      rintro e w1 ⟨rfl, h1, h2⟩
      have H1 := Lib.hid h1
      have H2 := Lib.hid (HR.out.2.2.trans h2)
      clear h1 h2 c0 c1 c2 c3 c4
      by_cases hv : inV (L - Vs.nodes (l.take j)) (d + 1) l[j]
      · have HV := Lib.hid hv
        rw [show decide (inV (L - Vs.nodes (l.take j)) (d + 1) l[j]) = true from decide_eq_true hv]
        have hst : KRel l L d p w (j + 1) w1 := ⟨insV_step hlt HR.out.1 hv, by
          have h := H1.out hv
          rw [Vs.nodes_step l j hlt, ← Nat.sub_sub]
          exact h, H2.out⟩
        have HST := Lib.hid hst
        clear hv hst
        go_wp2_with fail
        go_roundw
        case rel => exact ⟨j + 1, by omega, by go_num, HST.out⟩
        case measure => simp [intOf]; omega
      · rw [show decide (inV (L - Vs.nodes (l.take j)) (d + 1) l[j]) = false from decide_eq_false hv]
        have HN := Lib.hid (insV_no hlt hv)
        clear hv
        go_wp2_with fail
        go_ret
        exact ⟨_, rfl, .inr ⟨HN.out, by omega⟩, H2.out⟩
    · obtain rfl : j = l.length := by omega
      go_wp2_with fail
      go_ret
      have h := HR.out
      unfold KRel at h
      rw [List.take_length] at h
      exact ⟨_, rfl, .inl ⟨h.1, rfl, h.2.1⟩, h.2.2⟩
end Go.Proofs.YtbflkcldjjpioaaDoor

/-
  The program's isValue and ValueOk, whole.
-/
namespace Go.Proofs.YtbflkcldjjpioaaDoor
open Go.RowKit
set_option linter.unusedVariables false
set_option maxRecDepth 100000
set_option linter.unusedSimpArgs false

theorem Keep.drewN {p : Nat} {a w : World} (h : Keep (fun _ k => k = p) a w) (n : Nat) : Keep (fun _ k => k = p) a (w.drewN n) := ⟨h.os, h.tape, h.output, h.size, h.block⟩
theorem keep_below {p : Nat} {a w w' : World} (h : Keep (fun _ k => k = p) a w) (hb : Below w.heap.size w w') : Keep (fun _ k => k = p) a w' :=
  ⟨hb.os.trans h.os, hb.tape.trans h.tape, hb.output.trans h.output, Nat.le_trans h.size hb.size, fun k hk hd => ⟨(hb.block k (Nat.lt_of_lt_of_le hk h.size)).trans (h.block k hk hd).1, hd⟩⟩
set_option maxHeartbeats 8000000 in
theorem implVal_step (v : V) (hk : ∀ i (h : i < v.kids.length), ImplValSaid v.kids[i]) : ImplValSaid v := by
  intro A cap L d p W w hw hL hd0 hd1 hT hat hb hp hB
  obtain ⟨hw1, hw2, hw3⟩ := V.weight_kids v
  have hnn : v.nodes ≤ 1048577 := by have := V.nodes_weight v; omega
  have hlt := hB.lt
  have hbs := hb.size
  have hl : v.kids.length ≤ 1048576 := by omega
  have c0 : ((((w.alloc (.cells #[.int .i64 v.k, .int .i64 v.n, .int .i64 v.e, .string v.s, .slice A v.kids.length cap] 34)).alloc (.cells #[.int .i64 d] 3)).alloc (.cells #[.pointer (some ⟨p, 0, none⟩)] 94))).cell? ⟨p, 0, none⟩ = some (.int .i64 L) := (((hB.alloc _).alloc _).alloc _).cell 0
  have f0 : ((((w.alloc (.cells #[.int .i64 v.k, .int .i64 v.n, .int .i64 v.e, .string v.s, .slice A v.kids.length cap] 34)).alloc (.cells #[.int .i64 d] 3)).alloc (.cells #[.pointer (some ⟨p, 0, none⟩)] 94))).frozen? ⟨p, 0, none⟩ = false := (((hB.alloc _).alloc _).alloc _).frozen 0
  have HB := Lib.hid hB
  have HW := Lib.hid hb
  have HT := Lib.hid hT
  have HA := Lib.hid hat
  have HC := Lib.hid hk
  have HF := Lib.hid (val_frame (w := w) (p := p) (tv := 34) (ti := 3) (tp := 94) (cs := #[.int .i64 v.k, .int .i64 v.n, .int .i64 v.e, .string v.s, .slice A v.kids.length cap]) (u' := .int .i64 ((L : Int) - 1)) (d := .int .i64 d) (q := .pointer (some ⟨p, 0, none⟩)) hB)
  clear hB hb hT hat hk
  unfold V.agg
  go_enter Tryd.func93, Tryd.ntmps93
  go_wp2_with fail
  obtain ⟨w3, hw3, Bv, Bd, Bl, Bp, K3⟩ := HF.out
  rw [← hw3]
  clear hw3 HF c0 f0
  have hbw3 : Below W.heap.size W w3 := K3.below HW.out hbs (fun k hk => by omega)
  have HW3 := Lib.hid hbw3
  have HK3 := Lib.hid K3
  have HBV := Lib.hid Bv
  have HBD := Lib.hid Bd
  have HBL := Lib.hid Bl
  have HBP := Lib.hid Bp
  have hs3 := K3.size
  have lv := Bv.lt
  have ld := Bd.lt
  have ll := Bl.lt
  have lp := Bp.lt
  obtain ⟨p0, p1, p2, p3, p4⟩ := Bv.five
  have q0 := Bd.cell 0
  have q1 := Bl.cell 0
  have q2 := Bp.cell 0
  clear K3 Bv Bd Bl Bp hbw3
  by_cases hL0 : L = 0
  · subst hL0
    have g1 : decide (((0 : Nat) : Int) - 1 < 0) = true := decide_eq_true (by omega)
    go_quiet (fail)
    go_wp2_with fail
    go_ret
    exact ⟨ret_bool (decide_eq_false inV_no1).symm, fun h => absurd h inV_no1, Keep.drewN HK3.out _⟩
  have g1 : decide ((L : Int) - 1 < 0) = false := decide_eq_false (by omega)
  by_cases hd : 12 < d
  · have g2 : decide (12 < d) = true := decide_eq_true hd
    go_quiet (fail)
    go_wp2_with fail
    go_ret
    exact ⟨ret_bool (decide_eq_false (inV_no2 hd)).symm, fun h => absurd h (inV_no2 hd), Keep.drewN HK3.out _⟩
  have g2 : decide (12 < d) = false := decide_eq_false hd
  by_cases hkl : (L : Int) - 1 < v.kids.length
  · have g3 : decide ((L : Int) - 1 < v.kids.length) = true := decide_eq_true hkl
    have HNO : Hid (¬ inV L d v) := Lib.hid (inV_no3 (by omega))
    go_quiet (fail)
    go_wp2_with fail
    go_ret
    exact ⟨ret_bool (decide_eq_false HNO.out).symm, fun h => absurd h HNO.out, Keep.drewN HK3.out _⟩
  have g3 : decide ((L : Int) - 1 < v.kids.length) = false := decide_eq_false hkl
  have keep0 : ∀ w' : World, Below w3.heap.size w3 w' → w'.cell? ⟨w.heap.size, 0, none⟩ = some (.int .i64 v.k) ∧ w'.cell? ⟨w.heap.size, 1, none⟩ = some (.int .i64 v.n) ∧ w'.cell? ⟨w.heap.size, 2, none⟩ = some (.int .i64 v.e) ∧ w'.cell? ⟨w.heap.size, 3, none⟩ = some (.string v.s) ∧ w'.cell? ⟨w.heap.size, 4, none⟩ = some (.slice A v.kids.length cap) ∧ w'.cell? ⟨w.heap.size + 1, 0, none⟩ = some (.int .i64 d) ∧ w'.cell? ⟨w.heap.size + 1 + 1, 0, none⟩ = some (.pointer (some ⟨p, 0, none⟩)) ∧ w'.cell? ⟨p, 0, none⟩ = some (.int .i64 ((L : Int) - 1)) ∧ Below w3.heap.size w3 w' := by
    intro w' hb
    obtain ⟨p0, p1, p2, p3, p4⟩ := (HBV.out.below hb lv).five
    exact ⟨p0, p1, p2, p3, p4, (HBD.out.below hb ld).cell 0, (HBL.out.below hb ll).cell 0, (HBP.out.below hb lp).cell 0, hb⟩
  have KE := Lib.hid keep0
  clear keep0
  have hb3 : Below w3.heap.size w3 w3 := Below.refl _ _
  have hL1 : 1 ≤ L := by omega
  by_cases hnode : nodeOk v
  · by_cases hkids : kidsI v
    · have HI := Lib.hid (inV_iff (L := L) (d := d) hL1 (by omega) hnode hkids)
      have HD1 := Lib.hid (decide_eq_true hnode)
      have HD2 := Lib.hid (decide_eq_true hkids)
      clear hnode hkids
      go_region_held3 (fun w' => w'.cell? ⟨w.heap.size, 0, none⟩ = some (.int .i64 v.k) ∧ w'.cell? ⟨w.heap.size, 1, none⟩ = some (.int .i64 v.n) ∧ w'.cell? ⟨w.heap.size, 2, none⟩ = some (.int .i64 v.e) ∧ w'.cell? ⟨w.heap.size, 3, none⟩ = some (.string v.s) ∧ w'.cell? ⟨w.heap.size, 4, none⟩ = some (.slice A v.kids.length cap) ∧ w'.cell? ⟨w.heap.size + 1, 0, none⟩ = some (.int .i64 d) ∧ w'.cell? ⟨w.heap.size + 1 + 1, 0, none⟩ = some (.pointer (some ⟨p, 0, none⟩)) ∧ w'.cell? ⟨p, 0, none⟩ = some (.int .i64 ((L : Int) - 1)) ∧ Below w3.heap.size w3 w') (first | exact KE.out _ hb6 | exact KE.out _ hb5 | exact KE.out _ hb3.drew | exact KE.out _ hb3)
        (first
        | (have hgate := hb5; clear hgate; go_at_call 116; refine (implKids v A cap w5 hnn (Vs.at_more (Nat.le_refl _) (Nat.le_trans (Nat.le_trans hbs hs3) hb5.size) _ _ (Vs.at_below HA.out (HW3.out.trans (hb5.mono (Nat.le_trans hbs hs3))) (Nat.le_refl _)))).mono ?_; rintro e w6 ⟨rfl, hb6'⟩; have hb6 := hb5.trans (hb6'.mono hb5.size); rw [HD2.out])
        | (go_at_call 115; refine (implNode v A cap w3.drew (by omega) (HT.out.below HW3.out.drew)).mono ?_; rintro e w5 ⟨rfl, hb5'⟩; have hb5 : Below w3.heap.size w3 w5 := hb3.drew.trans hb5'; rw [HD1.out]))
      obtain ⟨p0, p1, p2, p3, p4, q0, q1, q2, _⟩ := KE.out _ hb6
      have hb6W : Below W.heap.size W w6 := HW3.out.trans (hb6.mono (Nat.le_trans hbs hs3))
      have HB6 := Lib.hid hb6
      have HB6W := Lib.hid hb6W
      clear KE hb5 hb5' hb6' hb6 hb6W hb3
      go_wp2_with (go_at_call 117; go_in)
      refine (implKids_index v.kids HC.out A cap (L - 1) d p (w.heap.size + 1) (w.heap.size + 1 + 1) W w6 (by omega) (by omega) hd0 (by omega) HT.out HA.out HB6W.out hp (by have h := HBP.out.below HB6.out lp; rw [show (L : Int) - 1 = ((L - 1 : Nat) : Int) by omega] at h; exact h) (HBD.out.below HB6.out ld) (HBL.out.below HB6.out ll) (by omega) (by omega)).mono ?_
      rintro e w7 ⟨r, rfl, h1, h2⟩
      have HK7 := Lib.hid ((keep_below HK3.out HB6.out).trans h2)
      clear h2
      rcases h1 with ⟨hy, rfl, hblk⟩ | ⟨hn, h0⟩
      · have HY := Lib.hid (HI.out.2 hy)
        have HBK := Lib.hid hblk
        clear hy hblk
        go_wp2_with fail
        go_ret
        exact ⟨ret_bool (decide_eq_true HY.out).symm, fun _ => by
          have h := HBK.out
          rw [show L - 1 - Vs.nodes v.kids = L - v.nodes by rw [V.nodes_eq]; omega] at h
          exact h, HK7.out⟩
      · have HN := Lib.hid (fun h => hn (HI.out.1 h))
        clear hn
        go_wp2_with fail
        go_ret
        exact ⟨ret_bool (decide_eq_false HN.out).symm, fun h => absurd h HN.out, HK7.out⟩
    · have HN := Lib.hid (inV_no5 (L := L) (d := d) hkids)
      have HD1 := Lib.hid (decide_eq_true hnode)
      have HD2 := Lib.hid (decide_eq_false hkids)
      clear hnode hkids
      go_region_held3 (fun w' => w'.cell? ⟨w.heap.size, 0, none⟩ = some (.int .i64 v.k) ∧ w'.cell? ⟨w.heap.size, 1, none⟩ = some (.int .i64 v.n) ∧ w'.cell? ⟨w.heap.size, 2, none⟩ = some (.int .i64 v.e) ∧ w'.cell? ⟨w.heap.size, 3, none⟩ = some (.string v.s) ∧ w'.cell? ⟨w.heap.size, 4, none⟩ = some (.slice A v.kids.length cap) ∧ w'.cell? ⟨w.heap.size + 1, 0, none⟩ = some (.int .i64 d) ∧ w'.cell? ⟨w.heap.size + 1 + 1, 0, none⟩ = some (.pointer (some ⟨p, 0, none⟩)) ∧ w'.cell? ⟨p, 0, none⟩ = some (.int .i64 ((L : Int) - 1)) ∧ Below w3.heap.size w3 w') (first | exact KE.out _ hb6 | exact KE.out _ hb5 | exact KE.out _ hb3.drew | exact KE.out _ hb3)
        (first
        | (have hgate := hb5; clear hgate; go_at_call 116; refine (implKids v A cap w5 hnn (Vs.at_more (Nat.le_refl _) (Nat.le_trans (Nat.le_trans hbs hs3) hb5.size) _ _ (Vs.at_below HA.out (HW3.out.trans (hb5.mono (Nat.le_trans hbs hs3))) (Nat.le_refl _)))).mono ?_; rintro e w6 ⟨rfl, hb6'⟩; have hb6 := hb5.trans (hb6'.mono hb5.size); rw [HD2.out])
        | (go_at_call 115; refine (implNode v A cap w3.drew (by omega) (HT.out.below HW3.out.drew)).mono ?_; rintro e w5 ⟨rfl, hb5'⟩; have hb5 : Below w3.heap.size w3 w5 := hb3.drew.trans hb5'; rw [HD1.out]))
      have HB6 := Lib.hid hb6
      clear KE hb5 hb5' hb6' hb6 hb3
      go_wp2_with fail
      go_ret
      exact ⟨ret_bool (decide_eq_false HN.out).symm, fun h => absurd h HN.out, keep_below HK3.out HB6.out⟩
  · have HN := Lib.hid (inV_no4 (L := L) (d := d) hnode)
    have HD1 := Lib.hid (decide_eq_false hnode)
    clear hnode
    go_region_with (go_at_call 115; refine (implNode v A cap w3.drew (by omega) (HT.out.below HW3.out.drew)).mono ?_; rintro e w5 ⟨rfl, hb5'⟩; have hb5 : Below w3.heap.size w3 w5 := hb3.drew.trans hb5'; rw [HD1.out])
    all_goals
      have HB6 := Lib.hid hb5
      clear KE hb5 hb5' hb3
      go_wp2_with fail
      go_ret
      exact ⟨ret_bool (decide_eq_false HN.out).symm, fun h => absurd h HN.out, keep_below HK3.out HB6.out⟩
theorem implVal : ∀ v, ImplValSaid v := V.all implVal_step

set_option maxHeartbeats 1000000 in
theorem implValueOk (v : V) (A : Option Addr) (cap : Nat) (w : World) (hw : v.weight ≤ 1048576) (hT : Tabs w) (hat : Vs.at_ w 0 w.heap.size v.kids A) :
    Calls Tryd.prog 59 #[v.agg A cap] w fun e w' => e = .returned (.bool (decide (okV v))) ∧ Below w.heap.size w w' := by
  have HC := Lib.hid (fun (p : Nat) (w' : World) h1 (h2 : w.heap.size ≤ p) (h3 : Blk w' p 3 #[.int .i64 ((300 : Nat) : Int)]) => implVal v A cap 300 0 p w w' hw (Nat.le_refl _) (Int.le_refl _) (by omega) hT hat h1 h2 h3)
  have HI := Lib.hid (inV_okV v)
  clear hT hat
  unfold V.agg at HC
  unfold V.agg
  go_enter Tryd.func59, Tryd.ntmps59
  go_wp2_with fail
  have hb : Below w.heap.size w ((w.alloc (.cells #[.int .i64 v.k, .int .i64 v.n, .int .i64 v.e, .string v.s, .slice A v.kids.length cap] 34)).alloc (.cells #[.int .i64 300] 3)) := ((Below.refl _ w).alloc (Nat.le_refl _) _).alloc (by simp) _
  have hB := Blk.new (w.alloc (.cells #[.int .i64 v.k, .int .i64 v.n, .int .i64 v.e, .string v.s, .slice A v.kids.length cap] 34)) 3 #[.int .i64 300]
  refine (HC.out (w.heap.size + 1) _ hb (by omega) (by simpa using hB)).mono ?_
  rintro e w1 ⟨rfl, _, hk⟩
  have hb1 := hk.below hb (by simp; omega) (fun k hk => by omega)
  go_wp2_with fail
  go_ret
  exact ⟨ret_bool (decide_eq_decide.2 HI.out), hb1⟩
end Go.Proofs.YtbflkcldjjpioaaDoor

/-
  The library's listed tables, as a row lists them, lie as the contracts ask (by the names that utf8.ValidString reads).
-/
namespace Go.Proofs.YtbflkcldjjpioaaDoor
open Go.RowKit Go.Shelf Go.Lib

theorem accD : (Rows.laid_unicode_utf8_acceptRanges : DataW Unit) = Lib.acceptData := by kernel_rfl
theorem fstD : Rows.laid_unicode_utf8_first = Lib.firstData := Pinned.utf8First_eq
theorem extraU8 : U8Extra Tryd.prog Tryd.lays196_ren := ⟨by kernel_rfl, by kernel_rfl, by kernel_rfl, by kernel_rfl, by kernel_rfl, by kernel_rfl, by kernel_rfl⟩
theorem tabs_of_laid {l : List (String × DataW Unit)} {W : World} (h : laidMet Tryd.prog l W) (ha : ("unicode/utf8.acceptRanges", Rows.laid_unicode_utf8_acceptRanges) ∈ l) (hf : ("unicode/utf8.first", Rows.laid_unicode_utf8_first) ∈ l) : Tabs W :=
  utf8Tabs_of_readsT (.of196 Tryd.lays196) extraU8 (fstD ▸ Lib.laidMet.reads h hf) (accD ▸ Lib.laidMet.reads h ha)
end Go.Proofs.YtbflkcldjjpioaaDoor

/-
  The laws' own measure of a value.
-/
namespace Go.Proofs.YtbflkcldjjpioaaDoor
open Go.RowKit
set_option linter.unusedVariables false
set_option maxRecDepth 100000

def SzSaid (v : V) : Prop := ∀ (A : Option Addr) (cap : Nat) (L : Int) (w : World), 0 ≤ L → L ≤ 1048576 → V.fits v → Vs.at_ w 0 w.heap.size v.kids A →
    Calls Tryd.prog 13 #[v.agg A cap, .int .i64 L] w fun e w' => e = .returned (.int .i64 (szR L v.weight)) ∧ Below w.heap.size w w'
def SzSSaid (l : List V) : Prop := ∀ (A : Option Addr) (cap : Nat) (L : Int) (w : World), 0 ≤ L → L ≤ 1048576 → l.length ≤ 9223372036854775807 → Vs.fits l → Vs.at_ w 0 w.heap.size l A →
    Calls Tryd.prog 29 #[.slice A l.length cap, .int .i64 L] w fun e w' => e = .returned (.int .i64 (szR L (Vs.weight l))) ∧ Below w.heap.size w w'

set_option maxHeartbeats 1000000 in
theorem sz_step (v : V) (hk : SzSSaid v.kids) : SzSaid v := by
  intro A cap L w h0 h1 hf hat
  rw [V.fits_eq] at hf
  obtain ⟨f1, f2, f3, _⟩ := hf
  have HW := Lib.hid (V.weight_eq v)
  have HK := fun (c : Nat) (L' : Int) (w' : World) (g0 : 0 ≤ L') (g1 : L' ≤ 1048576) (hat' : Vs.at_ w' 0 w'.heap.size v.kids A) => hk A c L' w' g0 g1 f2 f3 hat'
  have HC := Lib.hid HK
  clear HK hk
  unfold V.agg
  by_cases hs : (v.s.size : Int) ≤ L
  · go_enter Tryd.func13, Tryd.ntmps13
    go_wp2_with fail
    refine (HC.out _ _ _ (by omega) (by omega) (Vs.at_more (Nat.le_refl _) (by simp) _ _ (Vs.at_keep (fun p _ hp => World.cell?_alloc_lt _ _ _ hp) _ _ hat))).mono ?_
    rintro e w1 ⟨rfl, hb1⟩
    have hbw : Below w.heap.size w w1 := ((Below.refl _ w).alloc (Nat.le_refl _) _).trans (hb1.mono (by simp))
    by_cases hw : (Vs.weight v.kids : Int) ≤ L - v.s.size
    · have e1 : szR (L - v.s.size) (Vs.weight v.kids) = L - v.s.size - Vs.weight v.kids := by rw [szR, if_pos hw]
      rw [e1]
      go_wp2_with fail
      go_ret
      exact ⟨ret_eq (by rw [szR, if_pos (by rw [HW.out]; omega), HW.out]; go_num), hbw⟩
    · have e1 : szR (L - v.s.size) (Vs.weight v.kids) = -1 := by rw [szR, if_neg hw]
      rw [e1]
      go_wp2_with fail
      go_ret
      exact ⟨ret_eq (by rw [szR, if_neg (by rw [HW.out]; omega)]; rfl), hbw⟩
  · go_enter Tryd.func13, Tryd.ntmps13
    go_wp2_with fail
    go_ret
    exact ⟨ret_eq (by rw [szR, if_neg (by rw [HW.out]; omega)]; rfl), (Below.refl _ _).alloc (Nat.le_refl _) _⟩

set_option maxHeartbeats 1000000 in
theorem szS_step (l : List V) (hk : ∀ i (h : i < l.length), SzSaid l[i]) : SzSSaid l := by
  intro A cap L w h0 h1 hl hf hat
  have HK := fun (i : Nat) (h : i < l.length) (A' : Option Addr) (c : Nat) (L' : Int) (w' : World) (g0 : 0 ≤ L') (g1 : L' ≤ 1048576) (hat' : Vs.at_ w' 0 w'.heap.size (l[i]).kids A') => hk i h A' c L' w' g0 g1 (Vs.fits_get i h hf) hat'
  have HC := Lib.hid HK
  clear HK hk
  by_cases hs : (l.length : Int) ≤ L
  · go_enter Tryd.func29, Tryd.ntmps29
    go_wp2_with fail
    go_loopw [1, 5] (fun x i wr => ∃ j : Nat, j ≤ l.length ∧ i = .int .i64 j ∧ (Vs.weight (l.take j) : Int) + (l.length - j) ≤ L ∧ x = .int .i64 (L - Vs.weight (l.take j) - (l.length - j)) ∧ Below w.heap.size w wr)
      (fun _ i _ => l.length - (intOf i).toNat)
    case atStart => exact ⟨0, Nat.zero_le _, rfl, by simp [Vs.weight]; omega, by simp [Vs.weight], Below.refl _ _⟩
    case round =>
      obtain ⟨j, hj, rfl, hle, rfl, hb⟩ := hrel
      by_cases hlt : j < l.length
      · obtain ⟨b, off, A', cap', rfl, g1, g2, g3, ⟨c0, c1, c2, c3, c4⟩, g5⟩ := Vs.at_get j hlt (Vs.at_below hat hb (Nat.le_refl _))
        have hst := Vs.weight_step l j hlt
        have hwl := Vs.weight_len l (j + 1)
        have HST := Lib.hid hst
        clear hst
        go_wp2_with fail
        refine (HC.out j hlt A' cap' _ _ (by omega) (by omega) (Vs.at_more (Nat.le_refl _) hb.size _ _ g5)).mono ?_
        rintro e w1 ⟨rfl, hb1⟩
        have hbw : Below w.heap.size w w1 := hb.trans (hb1.mono hb.size)
        by_cases hw : ((l[j]).weight : Int) ≤ L - Vs.weight (l.take j) - (l.length - j)
        · have e1 : szR (L - Vs.weight (l.take j) - (l.length - j)) (l[j]).weight = L - Vs.weight (l.take j) - (l.length - j) - (l[j]).weight := by rw [szR, if_pos hw]
          rw [e1]
          clear e1 c0 c1 c2 c3 c4
          go_wp2_with fail
          go_roundw
          case rel => exact ⟨j + 1, by omega, by go_num, by rw [HST.out]; omega, by rw [HST.out]; go_num, hbw⟩
          case measure => simp [intOf]; omega
        · have e1 : szR (L - Vs.weight (l.take j) - (l.length - j)) (l[j]).weight = -1 := by rw [szR, if_neg hw]
          rw [e1]
          clear e1 c0 c1 c2 c3 c4
          go_wp2_with fail
          go_ret
          exact ⟨ret_eq (by rw [szR, if_neg (by have := HST.out; omega)]; rfl), hbw⟩
      · obtain rfl : j = l.length := by omega
        go_wp2_with fail
        go_ret
        exact ⟨ret_num (by rw [List.take_length] at *; rw [szR, if_pos (by omega)]; omega), hb⟩
  · have hll := Vs.len_le l
    go_enter Tryd.func29, Tryd.ntmps29
    go_wp2_with fail
    go_ret
    exact ⟨ret_eq (by rw [szR, if_neg (by omega)]; rfl), Below.refl _ _⟩

theorem sz_all : ∀ (N : Nat), (∀ l : List V, Vs.nodes l ≤ N → SzSSaid l) := by
  intro N
  induction N with
  | zero =>
    intro l h
    refine szS_step l fun i hi => ?_
    have h1 := Vs.nodes_get i hi
    have h2 := V.nodes_pos l[i]
    omega
  | succ N ih =>
    intro l h
    refine szS_step l fun i hi => sz_step _ (ih _ ?_)
    have h1 := Vs.nodes_get i hi
    rw [V.nodes_eq] at h1
    omega
/-- The measure of a value. -/
theorem szValue_any (v : V) : SzSaid v := sz_step v (sz_all _ _ (Nat.le_refl _))
end Go.Proofs.YtbflkcldjjpioaaDoor

/-
  A value of the laws turned into one of the program: the same tree, in new memory.
-/
namespace Go.Proofs.YtbflkcldjjpioaaDoor
open Go.RowKit
set_option linter.unusedVariables false
set_option maxRecDepth 100000
set_option linter.unusedSimpArgs false

theorem infoV : (Tryd.prog.info? 34).map (fun i => (i.zero, i.size, i.bytes)) = some (some (.agg #[.int .i64 0, .int .i64 0, .int .i64 0, .string ⟨#[]⟩, .slice none 0 0]), 5, 64) := by kernel_rfl

def ToSaid (v : V) : Prop := ∀ (A : Option Addr) (cap : Nat) (w : World), v.nodes ≤ 1048577 → Vs.at_ w 0 w.heap.size v.kids A →
    Calls Tryd.prog 15 #[v.agg A cap] w fun e w' => ∃ A' c', e = .returned (v.agg A' c') ∧ v.kids.length ≤ c' ∧ Vs.at_ w' w.heap.size w'.heap.size v.kids A' ∧ Below w.heap.size w w'
def ToSSaid (l : List V) : Prop := ∀ (A : Option Addr) (cap : Nat) (w : World), l.length ≤ 1048576 → Vs.nodes l ≤ 1048576 → Vs.at_ w 0 w.heap.size l A →
    Calls Tryd.prog 31 #[.slice A l.length cap] w fun e w' => ∃ A' c', e = .returned (.slice A' l.length c') ∧ l.length ≤ c' ∧ Vs.at_ w' w.heap.size w'.heap.size l A' ∧ Below w.heap.size w w'

set_option maxHeartbeats 1000000 in
theorem to_step (v : V) (hk : ToSSaid v.kids) : ToSaid v := by
  intro A cap w hn hat
  rw [V.nodes_eq] at hn
  have hl : v.kids.length ≤ 1048576 := by have := Vs.len_nodes v.kids; omega
  have HK := fun (c : Nat) (w' : World) (hat' : Vs.at_ w' 0 w'.heap.size v.kids A) => hk A c w' hl (by omega) hat'
  have HC := Lib.hid HK
  clear HK hk
  unfold V.agg
  go_enter Tryd.func15, Tryd.ntmps15
  go_wp2_with fail
  refine (HC.out _ _ (Vs.at_more (Nat.le_refl _) (by simp; omega) _ _ (Vs.at_keep (fun p _ hp => by rw [World.cell?_alloc_lt _ _ _ (by simp; omega), World.cell?_alloc_lt _ _ _ (by simp; omega), World.cell?_alloc_lt _ _ _ hp]) _ _ hat))).mono ?_
  rintro e w1 ⟨A', c', rfl, hc', hat1, hb1⟩
  have B2 := (Blk.new ((w.alloc _).alloc _) _ _).below hb1 (by simp)
  have B1 := ((Blk.new (w.alloc _) _ _).alloc _).below hb1 (by simp)
  simp only [World.size_alloc] at B1 B2 hb1 hat1
  have c20 : w1.cell? ⟨w.heap.size + 1 + 1, 0, none⟩ = some (.int .i64 v.k) := B2.cell 0
  have c21 : w1.cell? ⟨w.heap.size + 1 + 1, 1, none⟩ = some (.int .i64 v.n) := B2.cell 1
  have c22 : w1.cell? ⟨w.heap.size + 1 + 1, 2, none⟩ = some (.int .i64 v.e) := B2.cell 2
  have c23 : w1.cell? ⟨w.heap.size + 1 + 1, 3, none⟩ = some (.string v.s) := B2.cell 3
  have c24 : w1.cell? ⟨w.heap.size + 1 + 1, 4, none⟩ = some (.slice none 0 0) := B2.cell 4
  have f24 := B2.frozen 4
  have c10 : w1.cell? ⟨w.heap.size + 1, 0, none⟩ = some (.int .i64 0) := B1.cell 0
  have c11 : w1.cell? ⟨w.heap.size + 1, 1, none⟩ = some (.int .i64 0) := B1.cell 1
  have c12 : w1.cell? ⟨w.heap.size + 1, 2, none⟩ = some (.int .i64 0) := B1.cell 2
  have c13 : w1.cell? ⟨w.heap.size + 1, 3, none⟩ = some (.string ⟨#[]⟩) := B1.cell 3
  have c14 : w1.cell? ⟨w.heap.size + 1, 4, none⟩ = some (.slice none 0 0) := B1.cell 4
  have f10 := B1.frozen 0
  have f11 := B1.frozen 1
  have f12 := B1.frozen 2
  have f13 := B1.frozen 3
  have f14 := B1.frozen 4
  clear B1 B2 hat
  have hbw : Below w.heap.size w w1 := ((((Below.refl _ w).alloc (Nat.le_refl _) _).alloc (by simp) _).alloc (by simp; omega) _).trans (hb1.mono (by omega))
  have hs1 : w.heap.size + 1 + 1 + 1 ≤ w1.heap.size := by have := hb1.size; simpa using this
  have HB := Lib.hid hbw
  have HA := Lib.hid hat1
  clear hbw hat1 hb1 HC
  go_wp2_with fail
  refine bodyPost_ret (v := .agg #[.int .i64 v.k, .int .i64 v.n, .int .i64 v.e, .string v.s, .slice A' v.kids.length c']) (by simp [results, Tryd.results15, go_sem, c20, c21, c22, c23, c10, c11, c12, c13, c14]) rfl ⟨A', c', rfl, hc', ?_, ?_⟩
  · simp only [World.size_setCell]
    exact Vs.at_more (by omega) (Nat.le_refl _) _ _ (Vs.at_set (Vs.at_set (Vs.at_set (Vs.at_set (Vs.at_set (Vs.at_set HA.out (.inl (by simp))) (.inl (by simp))) (.inl (by simp))) (.inl (by simp))) (.inl (by simp))) (.inl (by simp)))
  · exact ((((((HB.out.setCell (by simp; try omega) _).setCell (by simp; try omega) _).setCell (by simp; try omega) _).setCell (by simp; try omega) _).setCell (by simp; try omega) _).setCell (by simp; try omega) _)

/-- What the loop has laid: the first j elements. -/
def ToRel (l : List V) (w : World) (j : Nat) (wr : World) : Prop :=
  (∃ xs, wr.ownsRow w.heap.size 34 5 (.slice (some ⟨w.heap.size, 0, none⟩) l.length l.length) l.length xs) ∧ Below w.heap.size w wr ∧
  ∀ i (h : i < l.length), i < j → ∃ A' cap, (l[i]).kids.length ≤ cap ∧ CellsAt wr w.heap.size (0 + i * 5) l[i] A' cap ∧ Vs.at_ wr (w.heap.size + 1) wr.heap.size (l[i]).kids A'

theorem to_next {l : List V} {w wr w2 : World} {j : Nat} (hlt : j < l.length) (hb : Below w.heap.size w wr)
    (hrow : ∀ i (h : i < l.length), i < j → ∃ A' cap, (l[i]).kids.length ≤ cap ∧ CellsAt wr w.heap.size (0 + i * 5) l[i] A' cap ∧ Vs.at_ wr (w.heap.size + 1) wr.heap.size (l[i]).kids A')
    (hb2 : Below wr.heap.size wr w2) {xs : List Value} (hown : w2.ownsRow w.heap.size 34 5 (.slice (some ⟨w.heap.size, 0, none⟩) l.length l.length) l.length xs)
    {A2 : Option Addr} {c2 : Nat} (hat : Vs.at_ w2 wr.heap.size w2.heap.size (l[j]).kids A2) (hc : (l[j]).kids.length ≤ c2) {u0 u1 u2 u3 u4 : Value}
    (h0 : w2.cell? ⟨w.heap.size, j * 5, none⟩ = some u0) (h1 : w2.cell? ⟨w.heap.size, j * 5 + 1, none⟩ = some u1) (h2 : w2.cell? ⟨w.heap.size, j * 5 + 2, none⟩ = some u2) (h3 : w2.cell? ⟨w.heap.size, j * 5 + 3, none⟩ = some u3) (h4 : w2.cell? ⟨w.heap.size, j * 5 + 4, none⟩ = some u4) (hg : w.heap.size < wr.heap.size := by assumption) :
    ToRel l w (j + 1) (put5 w2 w.heap.size (j * 5) l[j] A2 c2) := by
  refine ⟨put5_own hown, put5_below (hb.trans (hb2.mono hb.size)) (Nat.le_refl _), fun i hi hij => ?_⟩
  rw [put5_size]
  have sub : ∀ (A : Option Addr) (k : List V) (lo hi : Nat), w.heap.size < lo → Vs.at_ w2 lo hi k A → Vs.at_ (put5 w2 w.heap.size (j * 5) l[j] A2 c2) lo hi k A := fun A k lo hi hl h =>
    Vs.at_keep (fun p hp _ => put5_other (.inl (by omega))) k A h
  by_cases he : i = j
  · subst he
    rw [Nat.zero_add]
    exact ⟨A2, c2, hc, put5_at h0 h1 h2 h3 h4, Vs.at_more (by omega) (Nat.le_refl _) _ _ (sub _ _ _ _ hg hat)⟩
  · obtain ⟨A', cap, r1, r2, r3⟩ := hrow i hi (by omega)
    have hlt2 : wr.heap.size ≤ w2.heap.size := hb2.size
    refine ⟨A', cap, r1, r2.keep fun q hq => ?_, sub _ _ _ _ (by omega) (Vs.at_more (Nat.le_refl _) hlt2 _ _ (Vs.at_below r3 hb2 (Nat.le_refl _)))⟩
    rw [put5_other (.inr (.inl (by show 0 + i * 5 + q < j * 5; omega)))]
    exact hb2.cell (p := ⟨w.heap.size, 0 + i * 5 + q, none⟩) hg

set_option maxHeartbeats 1000000 in
theorem toS_step (l : List V) (hk : ∀ i (h : i < l.length), ToSaid l[i]) : ToSSaid l := by
  intro A cap w hl hn hat
  have HK := fun (i : Nat) (h : i < l.length) (A' : Option Addr) (c : Nat) (w' : World) (hat' : Vs.at_ w' 0 w'.heap.size (l[i]).kids A') => hk i h A' c w' (by have := Vs.nodes_get i h; omega) hat'
  have HC := Lib.hid HK
  clear HK hk
  obtain ⟨i0, hi, hz0, hz1, hz2⟩ := info_parts infoV
  go_enter Tryd.func31, Tryd.ntmps31
  go_wp2_with (at_make; refine wpList_make_full _ rfl _ _ 32 rfl w.heap.size 34 i0 _ 5 Tryd.underlying32 hi hz0 hz1 _ _ _ _ l.length rfl rfl (by omega) (by omega) ?b1 ?b2 ?b3 ?_)
  case b1 => rw [hz2]; omega
  case b2 => unfold maxLen; omega
  case b3 => omega
  intro w1 hown1 hg1
  go_wp2_with fail
  go_loopw [4] (fun i wr => ∃ j : Nat, j ≤ l.length ∧ i = .int .i64 j ∧ ToRel l w j wr) (fun i _ => l.length - (intOf i).toNat)
  case atStart => exact ⟨0, Nat.zero_le _, rfl, ⟨_, hown1⟩, (Below.refl _ _).grown hg1 (Nat.le_refl _) (fun k h => by cases h), fun i h h' => absurd h' (by omega)⟩
  case round =>
    obtain ⟨j, hj, rfl, ⟨xs, hown⟩, hb, hrow⟩ := hrel
    have HR := Lib.hid hrow
    have hgr : w.heap.size < wr.heap.size := (hown.lt _ rfl).2
    clear hrow
    by_cases hlt : j < l.length
    · obtain ⟨b, off, A', cap', rfl, g1, g2, g3, ⟨c0, c1, c2, c3, c4⟩, g5⟩ := Vs.at_get j hlt (Vs.at_below hat hb (Nat.le_refl _))
      go_wp2_with fail
      refine (HC.out j hlt A' cap' _ (Vs.at_more (Nat.le_refl _) hb.size _ _ g5)).mono ?_
      rintro e w2 ⟨A2, c2', rfl, hc2, hat2, hb2⟩
      unfold V.agg
      have hown2 := own_below hown hb2
      have hxl := hown2.1
      have cq : ∀ q, q < 5 → ∃ u, w2.cell? ⟨w.heap.size, j * 5 + q, none⟩ = some u := fun q hq => ⟨_, (hown2.cellAt (j * 5 + q) (by omega)).trans (List.getElem?_eq_getElem (by omega))⟩
      obtain ⟨u0, d0⟩ := cq 0 (by omega)
      obtain ⟨u1, d1⟩ := cq 1 (by omega)
      obtain ⟨u2, d2⟩ := cq 2 (by omega)
      obtain ⟨u3, d3⟩ := cq 3 (by omega)
      obtain ⟨u4, d4⟩ := cq 4 (by omega)
      simp only [Nat.add_zero] at d0
      have k0 := hown2.frozenAt (j * 5)
      have k1 := hown2.frozenAt (j * 5 + 1)
      have k2 := hown2.frozenAt (j * 5 + 2)
      have k3 := hown2.frozenAt (j * 5 + 3)
      have k4 := hown2.frozenAt (j * 5 + 4)
      have HO := Lib.hid hown2
      have HA := Lib.hid hat2
      have HB2 := Lib.hid hb2
      clear c0 c1 c2 c3 c4 cq hxl hown2 hat2 hb2 hown
      go_wp2_with fail
      go_roundw
      case rel => exact ⟨j + 1, by omega, by go_num, to_next hlt hb HR.out HB2.out HO.out HA.out hc2 d0 d1 d2 d3 d4⟩
      case measure => simp [intOf]; omega
    · obtain rfl : j = l.length := by omega
      go_wp2_with fail
      go_ret
      refine ⟨_, _, rfl, Nat.le_refl _, Vs.at_of (Nat.le_refl _) (hown.lt _ rfl).2 l 0 fun i hi => ?_, hb⟩
      obtain ⟨A', cap, r1, r2, r3⟩ := HR.out i hi hi
      exact ⟨A', cap, r1, r2, Vs.at_more (Nat.le_succ _) (Nat.le_refl _) _ _ r3⟩

theorem to_all : ∀ (N : Nat), (∀ l : List V, Vs.nodes l ≤ N → ToSSaid l) := by
  intro N
  induction N with
  | zero =>
    intro l h
    refine toS_step l fun i hi => ?_
    have h1 := Vs.nodes_get i hi
    have h2 := V.nodes_pos l[i]
    omega
  | succ N ih =>
    intro l h
    refine toS_step l fun i hi => to_step _ (ih _ ?_)
    have h1 := Vs.nodes_get i hi
    rw [V.nodes_eq] at h1
    omega
theorem toValue_any (v : V) : ToSaid v := to_step v (to_all _ _ (Nat.le_refl _))
end Go.Proofs.YtbflkcldjjpioaaDoor

/-
  The laws' own test of equality holds of two copies of one value.
-/
namespace Go.Proofs.YtbflkcldjjpioaaDoor
open Go.RowKit
set_option linter.unusedVariables false
set_option maxRecDepth 100000
set_option linter.unusedSimpArgs false

def EqSaid (v : V) : Prop := ∀ (A A2 : Option Addr) (cap cap2 : Nat) (w : World), v.nodes ≤ 1048577 → Vs.at_ w 0 w.heap.size v.kids A → Vs.at_ w 0 w.heap.size v.kids A2 →
    Calls Tryd.prog 17 #[v.agg A cap, v.agg A2 cap2] w fun e w' => e = .returned (.bool true) ∧ Below w.heap.size w w'
def EqSSaid (l : List V) : Prop := ∀ (A A2 : Option Addr) (cap cap2 : Nat) (w : World), Vs.nodes l ≤ 1048576 → Vs.at_ w 0 w.heap.size l A → Vs.at_ w 0 w.heap.size l A2 →
    Calls Tryd.prog 33 #[.slice A l.length cap, .slice A2 l.length cap2] w fun e w' => e = .returned (.bool true) ∧ Below w.heap.size w w'


set_option maxHeartbeats 1000000 in
theorem eq_step (v : V) (hk : EqSSaid v.kids) : EqSaid v := by
  intro A A2 cap cap2 w hn hat hat2
  rw [V.nodes_eq] at hn
  have HK := fun (c c2 : Nat) (w' : World) (h1 : Vs.at_ w' 0 w'.heap.size v.kids A) (h2 : Vs.at_ w' 0 w'.heap.size v.kids A2) => hk A A2 c c2 w' (by omega) h1 h2
  have HC := Lib.hid HK
  clear HK hk
  have HA := Lib.hid hat
  have HA2 := Lib.hid hat2
  clear hat hat2
  unfold V.agg
  go_enter Tryd.func17, Tryd.ntmps17
  go_wp2_with fail
  refine (HC.out _ _ _ (Vs.at_more (Nat.le_refl _) (by simp; omega) _ _ (Vs.at_alloc (Vs.at_alloc HA.out (Nat.le_refl _) _) (by simp) _)) (Vs.at_more (Nat.le_refl _) (by simp; omega) _ _ (Vs.at_alloc (Vs.at_alloc HA2.out (Nat.le_refl _) _) (by simp) _))).mono ?_
  rintro e w1 ⟨rfl, hb1⟩
  have hbw : Below w.heap.size w w1 := (((Below.refl _ w).alloc (Nat.le_refl _) _).alloc (by simp) _).trans (hb1.mono (by simp; omega))
  go_wp2_with fail
  go_ret
  exact ⟨rfl, hbw⟩

set_option maxHeartbeats 1000000 in
theorem eqS_step (l : List V) (hk : ∀ i (h : i < l.length), EqSaid l[i]) : EqSSaid l := by
  intro A A2 cap cap2 w hn hat hat2
  have hl : l.length ≤ 1048576 := by have := Vs.len_nodes l; omega
  have HK := fun (i : Nat) (h : i < l.length) (A' A2' : Option Addr) (c c2 : Nat) (w' : World) (h1 : Vs.at_ w' 0 w'.heap.size (l[i]).kids A') (h2 : Vs.at_ w' 0 w'.heap.size (l[i]).kids A2') => hk i h A' A2' c c2 w' (by have := Vs.nodes_get i h; omega) h1 h2
  have HC := Lib.hid HK
  clear HK hk
  have HA := Lib.hid hat
  have HA2 := Lib.hid hat2
  clear hat hat2
  go_enter Tryd.func33, Tryd.ntmps33
  go_wp2_with fail
  go_loopw [5] (fun i wr => ∃ j : Nat, j ≤ l.length ∧ i = .int .i64 j ∧ Below w.heap.size w wr) (fun i _ => l.length - (intOf i).toNat)
  case atStart => exact ⟨0, Nat.zero_le _, rfl, Below.refl _ _⟩
  case round =>
    obtain ⟨j, hj, rfl, hb⟩ := hrel
    by_cases hlt : j < l.length
    · have hat1 := Vs.at_below HA.out hb (Nat.le_refl _)
      have hat2 := Vs.at_below HA2.out hb (Nat.le_refl _)
      obtain ⟨b, off, A', cap', rfl, g1, g2, g3, ⟨c0, c1, c2, c3, c4⟩, g5⟩ := Vs.at_get j hlt hat1
      obtain ⟨b2, off2, A2', cap2', rfl, g12, g22, g32, ⟨d0, d1, d2, d3, d4⟩, g52⟩ := Vs.at_get j hlt hat2
      clear hat1 hat2
      go_wp2_with fail
      go_still_tail 8, (by kernel_rfl)
      change wpList _ _ _ _ _ wr.drew
      go_wp2_with fail
      refine (HC.out j hlt A' A2' cap' cap2' wr.drew (Vs.at_more (Nat.le_refl _) hb.size _ _ (Vs.at_drew g5)) (Vs.at_more (Nat.le_refl _) hb.size _ _ (Vs.at_drew g52))).mono ?_
      rintro e w1 ⟨rfl, hb1⟩
      have hbw : Below w.heap.size w w1 := hb.drew.trans (hb1.mono hb.size)
      clear c0 c1 c2 c3 c4 d0 d1 d2 d3 d4
      go_wp2_with fail
      go_roundw
      case rel => exact ⟨j + 1, by omega, by go_num, hbw⟩
      case measure => simp [intOf]; omega
    · obtain rfl : j = l.length := by omega
      go_wp2_with fail
      go_ret
      exact ⟨rfl, hb⟩

theorem eq_all : ∀ (N : Nat), (∀ l : List V, Vs.nodes l ≤ N → EqSSaid l) := by
  intro N
  induction N with
  | zero =>
    intro l h
    refine eqS_step l fun i hi => ?_
    have h1 := Vs.nodes_get i hi
    have h2 := V.nodes_pos l[i]
    omega
  | succ N ih =>
    intro l h
    refine eqS_step l fun i hi => eq_step _ (ih _ ?_)
    have h1 := Vs.nodes_get i hi
    rw [V.nodes_eq] at h1
    omega
theorem eqValue_any (v : V) : EqSaid v := eq_step v (eq_all _ _ (Nat.le_refl _))
end Go.Proofs.YtbflkcldjjpioaaDoor

/-
  An argument that is a value of the laws, read as a tree.
-/
namespace Go.Proofs.YtbflkcldjjpioaaDoor
open Go.RowKit Go.ChangeShapes Go.WideShapes Go.Deep
set_option linter.unusedVariables false
set_option linter.unusedSimpArgs false
set_option maxRecDepth 100000

theorem cellsLV : Tryd.prog.cellsOf 29 = 5 := by kernel_rfl
theorem cellsInt : Tryd.prog.cellsOf 3 = 1 := by kernel_rfl
theorem cellsStr : Tryd.prog.cellsOf 9 = 1 := by kernel_rfl
theorem cellsLVs : Tryd.prog.cellsOf 27 = 1 := by kernel_rfl

theorem inI_of_wf {n : Int} (h : (Lit.int .i64 n).wf = true) : inI n := by
  unfold inI
  simpa [Lit.wf, IntKind.min, IntKind.max, IntKind.signed, IntKind.bits] using h

/-- One tree out of many: for every i below n there is a value. -/
theorem choose_V {n : Nat} {R : Nat → V → Prop} (h : ∀ i, i < n → ∃ v, R i v) : ∃ l : List V, l.length = n ∧ ∀ i (hi : i < l.length), R i l[i] := by
  induction n with
  | zero => exact ⟨[], rfl, fun i hi => absurd hi (by simp)⟩
  | succ n ih =>
    obtain ⟨l, hl, hR⟩ := ih fun i hi => h i (by omega)
    obtain ⟨v, hv⟩ := h n (by omega)
    refine ⟨l ++ [v], by simp [hl], fun i hi => ?_⟩
    by_cases he : i < l.length
    · rw [List.getElem_append_left he]; exact hR i he
    · have hin : i = l.length := by simp at hi; omega
      subst hin
      simp
      rw [hl]; exact hv
theorem Vs.fits_of : ∀ (l : List V), (∀ i (h : i < l.length), (l[i]).fits) → Vs.fits l
  | [], _ => by simp only [Vs.fits]
  | v :: r, h => by
    simp only [Vs.fits]
    exact ⟨h 0 (Nat.zero_lt_succ _), Vs.fits_of r fun i hi => h (i + 1) (Nat.succ_lt_succ hi)⟩

section
variable {H : Type} {enc : TypeId × Value → H} {W : World} {sp : Nat → Bool} {held : Bool}

theorem open_V : ∀ (fuel : Nat) (cs : List Value) (x : DataW H × List MemPlace), DataW.trod enc Tryd.prog W 0 sp held fuel 29 cs = some x →
    ∃ (v : V) (A : Option Addr) (cap : Nat), cs = [.int .i64 v.k, .int .i64 v.n, .int .i64 v.e, .string v.s, .slice A v.kids.length cap] ∧ v.kids.length ≤ cap ∧ v.fits ∧ Vs.at_ W 0 W.heap.size v.kids A := by
  intro fuel
  induction fuel using Nat.strongRecOn with
  | _ fuel ih =>
  intro cs x h
  obtain ⟨xs, m, hfu, rfl, hlen, hl, hf⟩ := DataW.trod_struct Tryd.underlying29 h
  rw [cellsLV] at hlen
  match cs, hlen with
  | [v0, v1, v2, v3, v4], _ =>
  match xs, hl with
  | [y0, y1, y2, y3, y4], _ =>
  have f0 := hf 0 _ rfl
  have f1 := hf 1 _ rfl
  have f2 := hf 2 _ rfl
  have f3 := hf 3 _ rfl
  have f4 := hf 4 _ rfl
  simp [cellsInt, cellsStr, cellsLVs] at f0 f1 f2 f3 f4
  obtain ⟨k, e0, _, wk⟩ := DataW.trod_int Tryd.underlying3 f0
  obtain ⟨n, e1, _, wn⟩ := DataW.trod_int Tryd.underlying3 f1
  obtain ⟨e, e2, _, we⟩ := DataW.trod_int Tryd.underlying3 f2
  obtain ⟨s, e3, _, hs⟩ := DataW.trod_string Tryd.underlying9 f3
  simp only [List.cons.injEq, and_true] at e0 e1 e2 e3
  subst e0 e1 e2 e3
  have rk := inI_of_wf wk
  have rn := inI_of_wf wn
  have re := inI_of_wf we
  unfold maxLen at hs
  rcases DataW.trod_slice Tryd.underlying27 f4 with ⟨e4, _⟩ | ⟨a, len, cap, elems, rest, n', hm, e4, _, hb, hlc, hcm, hel, hat, _⟩
  · simp only [List.cons.injEq, and_true] at e4
    subst e4
    exact ⟨.mk k n e s [], none, 0, rfl, Nat.le_refl _, by simp [V.fits, Vs.fits, hs, rk, rn, re], by simp [V.kids, Vs.at_]⟩
  · simp only [List.cons.injEq, and_true] at e4
    subst e4
    unfold maxLen at hcm
    rw [cellsLV] at hat
    have hone : ∀ i, i < len → ∃ v : V, ∃ A' cap', v.kids.length ≤ cap' ∧ v.fits ∧ (∃ b off, a = ⟨b, off, none⟩ ∧ b < W.heap.size ∧ CellsAt W b (off + i * 5) v A' cap') ∧ Vs.at_ W 0 W.heap.size v.kids A' := by
      intro i hi
      have h1 := hat i hi
      have h2 : elems[i]? = some (elems[i]'(by omega)) := List.getElem?_eq_getElem (by omega)
      rw [h2] at h1
      obtain ⟨cs', hc, ht⟩ := Option.bind_eq_some_iff.1 h1
      obtain ⟨v, A', cap', rfl, g1, g2, g3⟩ := ih n' (by omega) cs' _ ht
      obtain ⟨_, hcl, hcell⟩ := World.cells?_some hc
      have q := fun j (hj : j < 5) => hcell j hj
      have h10 := hat 0 (by omega)
      have h20 : elems[0]? = some (elems[0]'(by omega)) := List.getElem?_eq_getElem (by omega)
      rw [h20] at h10
      obtain ⟨cs0, hc0, _⟩ := Option.bind_eq_some_iff.1 h10
      obtain ⟨_, hcl0, hcell0⟩ := World.cells?_some hc0
      have p0 : ∃ u, W.cell? a = some u := by
        have := hcell0 0 (by omega)
        rw [List.getElem?_eq_getElem (by omega)] at this
        simp [Addr.add] at this
        exact ⟨_, this⟩
      obtain ⟨u0, p0⟩ := p0
      obtain ⟨b, off, spot⟩ := a
      have hspot : spot = none := World.cell?_spot p0
      subst hspot
      have ad : ∀ j, ((⟨b, off, none⟩ : Addr).add (i * 5)).add j = ⟨b, off + i * 5 + j, none⟩ := fun j => by rw [Addr.add_lit, Addr.add_lit]
      have q0 := q 0 (by omega)
      have q1 := q 1 (by omega)
      have q2 := q 2 (by omega)
      have q3 := q 3 (by omega)
      have q4 := q 4 (by omega)
      rw [ad] at q0 q1 q2 q3 q4
      exact ⟨v, A', cap', g1, g2, ⟨b, off, rfl, World.block_lt_of_cell? W ⟨b, off + i * 5 + 0, none⟩ q0, ⟨q0, q1, q2, q3, q4⟩⟩, g3⟩
    obtain ⟨l, hll, hR⟩ := choose_V hone
    subst hll
    refine ⟨.mk k n e s l, some a, cap, rfl, hlc, ?_, ?_⟩
    · simp only [V.fits]
      exact ⟨hs, by omega, (Vs.fits_of l fun i hi => by obtain ⟨_, _, _, hf, _⟩ := hR i hi; exact hf), rk, rn, re⟩
    · show Vs.at_ W 0 W.heap.size l (some a)
      by_cases h0 : l.length = 0
      · have : l = [] := List.eq_nil_of_length_eq_zero h0
        subst this
        simp only [Vs.at_]
      · obtain ⟨_, _, _, _, ⟨b, off, rfl, hbl, _⟩, _⟩ := hR 0 (by omega)
        refine Vs.at_of (Nat.zero_le _) hbl l off fun i hi => ?_
        obtain ⟨A', cap', r1, _, ⟨b', off', e, _, r2⟩, r3⟩ := hR i hi
        injection e with e1 e2
        subst e1 e2
        exact ⟨A', cap', r1, r2, r3⟩

/-- A value of the laws that came in. -/
theorem open_value {v : Value} {d : DataW H} {p : List MemPlace} {r : Reach} {b0 : Nat} (hv : Value.okWide Tryd.prog W r b0 29 v) (h : DataW.Trod enc Tryd.prog W 0 sp held 29 v d p) :
    ∃ (t : V) (A : Option Addr) (cap : Nat), v = t.agg A cap ∧ t.fits ∧ Vs.at_ W 0 W.heap.size t.kids A := by
  obtain ⟨cs, rfl, hsz⟩ := okWide_struct Tryd.underlying29 hv
  obtain ⟨fuel, hf⟩ := h
  obtain ⟨t, A, cap, e, _, h1, h2⟩ := open_V fuel _ _ hf
  refine ⟨t, A, cap, ?_, h1, h2⟩
  unfold V.agg
  congr 1
  apply Array.ext'
  simpa [Value.cells] using e
end
end Go.Proofs.YtbflkcldjjpioaaDoor
