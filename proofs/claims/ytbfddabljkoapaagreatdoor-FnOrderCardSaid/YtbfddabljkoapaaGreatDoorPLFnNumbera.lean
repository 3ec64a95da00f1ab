/-
  The texts on which the last one leans, part 1: Base, Plain, Kit, Tree, Nodes, Lit, Enc, Piece, Sgn, Runes, Int, Right, NormP, NumP, Dec, Less, CnP, DecS, ReadDecS.
-/
import Derived.Test.YtbfddabljkoapaaGreatDoorRows
import Derived.WalkKit
import Derived.ProofKit
import Derived.OpenShut
import Derived.ShutString
import Derived.ChangeOld
import Derived.Below
import Derived.WalkSpells
import Derived.WalkLawsBesides
import Derived.Lib.Hide
import Derived.Laws.BitsAllLaws
import Derived.Laws.OwnMore
import Derived.RegionTactic
import Derived.OwnWalk
import Derived.Deep.Draws
import Derived.Laws.IdiomStrings
import Derived.Maps.AppendAt
import Derived.Deep.Slices
import Derived.Laws.Rows
import Derived.Lib.DecodeN
import Derived.Lib.ValidLaws
import Derived.Lib.ItoaNum
import Derived.Lib.AtoiAllCases
import Derived.Lib.TrimByte
/-
  Facts about the program that every text of this seat uses.
-/
namespace Go.Proofs.YtbfddabljkoapaaGreatDoor
open Go.ChangeShapes Go.WideShapes Go.ChangeAt Go.RowKit
theorem own : ownKnob Tryz.prog.godebug = none := by kernel_rfl
theorem laidOut : laidOutB Tryz.prog = true := by kernel_rfl
end Go.Proofs.YtbfddabljkoapaaGreatDoor

/-
  Plain facts on lists of bytes; no program.
-/
namespace Go.Proofs.YtbfddabljkoapaaGreatDoor
open Go.RowKit

/-- A byte as a value. -/
def bv (b : UInt8) : Value := .int .u8 (b.toNat : Int)

theorem bv_one (l : List UInt8) : ∀ u ∈ l.map bv, u.oneCell' = true := by
  intro u hu
  obtain ⟨_, _, rfl⟩ := List.mem_map.1 hu
  rfl

/-- The text of a list of bytes. -/
def str (l : List UInt8) : ByteArray := ⟨l.toArray⟩

/-- One hexadecimal digit. -/
def hexD (n : Nat) : UInt8 := if n < 10 then UInt8.ofNat (48 + n) else UInt8.ofNat (87 + n)
def hexOf (l : List UInt8) : List UInt8 := l.flatMap fun b => [hexD (b.toNat / 16), hexD (b.toNat % 16)]
theorem hexOf_len (l : List UInt8) : (hexOf l).length = 2 * l.length := by
  induction l with
  | nil => rfl
  | cons b l ih => simp only [hexOf, List.flatMap_cons, List.length_append, List.length_cons, List.length_nil] at *; omega
theorem hexOf_snoc (l : List UInt8) (b : UInt8) : hexOf (l ++ [b]) = hexOf l ++ [hexD (b.toNat / 16), hexD (b.toNat % 16)] := by
  simp [hexOf]
theorem take_snoc (s : ByteArray) (k : Nat) (h : k < s.size) : s.data.toList.take (k + 1) = s.data.toList.take k ++ [s[k]] := by
  rw [List.take_succ_eq_append_getElem (by simpa using h)]; rfl

theorem and15 (n : Nat) (h : n < 256) : bits .and .u8 (n : Int) 15 = ((n % 16 : Nat) : Int) := by
  rw [show (15 : Int) = ((15 : Nat) : Int) from rfl, u8_and_nat n 15 h (by omega)]
  congr 1
  exact Nat.and_two_pow_sub_one_eq_mod n 4
/-- The text of the sixteen digits. -/
theorem digit_at (n : Nat) (h : n < 16) : ∃ hn, (ByteArray.mk #[48, 49, 50, 51, 52, 53, 54, 55, 56, 57, 97, 98, 99, 100, 101, 102])[n]'hn = hexD n := by
  refine ⟨h, ?_⟩
  have : ∀ m : Fin 16, (ByteArray.mk #[48, 49, 50, 51, 52, 53, 54, 55, 56, 57, 97, 98, 99, 100, 101, 102])[m.val]'m.isLt = hexD m.val := by decide
  exact this ⟨n, h⟩
theorem digit_at' (n : Nat) (hn) : (ByteArray.mk #[48, 49, 50, 51, 52, 53, 54, 55, 56, 57, 97, 98, 99, 100, 101, 102])[n]'hn = hexD n := (digit_at n hn).2
theorem hex_cells (n : Nat) (p q) : #[Value.int .u8 (((ByteArray.mk #[48, 49, 50, 51, 52, 53, 54, 55, 56, 57, 97, 98, 99, 100, 101, 102])[((n : Int) / 16).toNat]'p).toNat : Int), Value.int .u8 (((ByteArray.mk #[48, 49, 50, 51, 52, 53, 54, 55, 56, 57, 97, 98, 99, 100, 101, 102])[((n : Int) % 16).toNat]'q).toNat : Int)].toList = [hexD (n / 16), hexD (n % 16)].map bv := by
  rw [digit_at', digit_at']
  have e1 : ((n : Int) / 16).toNat = n / 16 := by omega
  have e2 : ((n : Int) % 16).toNat = n % 16 := by omega
  rw [e1, e2]
  rfl
theorem quo16 (n : Nat) (h : n < 256) : IntKind.u8.wrap ((n : Int) / 16) = (n : Int) / 16 := by
  rw [IntKind.wrap_u8']; omega
theorem rem16 (n : Nat) : (n : Int).tmod 16 = (n : Int) % 16 := Int.tmod_eq_emod_of_nonneg (by omega)
end Go.Proofs.YtbfddabljkoapaaGreatDoor

/-
  Laws for this seat's walks: an append onto a row of the call's own, said together with what lay below.
-/
namespace Go.Proofs.YtbfddabljkoapaaGreatDoor
open Go.RowKit

section
variable {P : Program} {ops : Array Oper} {o : Oper} {a : Act} {w : World} {K : Act → World → Prop} {Q : Exit → Act → World → Prop}

theorem wp_app (s x : Operand) (t : TypeId) (ho : o.op = .call { callee := .builtin .append, args := #[s, x], argTypes := #[t, t] })
    (base : Nat) (e : TypeId) {z : Value} {size bytes : Nat} (ht : P.underlying t = some (.slice e)) (hinfo : (P.info? e).map (fun i => (i.zero, i.size, i.bytes)) = some (some z, size, bytes)) (hzs : z.cells.size = size) (hsz : 0 < size)
    {W : World} {v : Value} {n : Nat} {xs : List Value} (hs : a.eval s = v) (hown : w.ownsRow base e size v n xs) (hb : Below base W w) (hB : base ≤ w.heap.size)
    (ad : Addr) (m c : Nat) (news : List Value) (hx : a.eval x = .slice (some ad) m c) (hl : news.length = m * size) (hnews : ∀ j u, news[j]? = some u → w.cell? (ad.add j) = some u) (h1 : ∀ u ∈ news, u.oneCell' = true)
    (h63 : n + m ≤ maxLen) (hbytes : (n + m) * bytes ≤ 140737488355328)
    (h : ∀ v' w', w'.ownsRow base e size v' (n + m) (xs ++ news) → Below base W w' → base ≤ w'.heap.size → K (a.put o.dst v') w') : o.wp P a w K Q := by
  obtain ⟨i, hi, hz, hsize, hby⟩ := info_parts hinfo
  obtain ⟨v', w', hrun, h2, h3, h4⟩ := run_append_own (P := P) w base t o.type e i z size bytes ht hi hz hsize hby hzs hsz v n xs hown ad m c news hl hnews h1 h63 hbytes hB
  unfold Oper.wp execOp
  simp only [ho, resolve, invoke, builtin, Sem.run_bind, Sem.run_pure, Result.andThen_ok, List.map_toArray, List.map_cons, List.map_nil, hs, hx, hrun]
  exact h v' w' h2 (hb.grown h3 hB (fun k hk => (hown.lt k hk).1)) (Nat.le_trans hB h3.size)

/-- The same as a step of a list of operations. -/
theorem wpList_app {rest : List Oper} (hgd : o.guard = none) (s x : Operand) (t : TypeId) (ho : o.op = .call { callee := .builtin .append, args := #[s, x], argTypes := #[t, t] })
    (base : Nat) (e : TypeId) {z : Value} {size bytes : Nat} (ht : P.underlying t = some (.slice e)) (hinfo : (P.info? e).map (fun i => (i.zero, i.size, i.bytes)) = some (some z, size, bytes)) (hzs : z.cells.size = size) (hsz : 0 < size)
    {W : World} {v : Value} {n : Nat} {xs : List Value} (hs : a.eval s = v) (hown : w.ownsRow base e size v n xs) (hb : Below base W w) (hB : base ≤ w.heap.size)
    (ad : Addr) (m c : Nat) (news : List Value) (hx : a.eval x = .slice (some ad) m c) (hl : news.length = m * size) (hnews : ∀ j u, news[j]? = some u → w.cell? (ad.add j) = some u) (h1 : ∀ u ∈ news, u.oneCell' = true)
    (h63 : n + m ≤ maxLen) (hbytes : (n + m) * bytes ≤ 140737488355328)
    (h : ∀ v' w', w'.ownsRow base e size v' (n + m) (xs ++ news) → Below base W w' → base ≤ w'.heap.size → wpList P ops Q rest (a.put o.dst v') w') : wpList P ops Q (o :: rest) a w :=
  wpList_plain hgd fun _ hK => wp_app s x t ho base e ht hinfo hzs hsz hs hown hb hB ad m c news hx hl hnews h1 h63 hbytes fun v' w' h2 h3 h4 => hK _ _ (h v' w' h2 h3 h4)

/-- An append that says which block the row lies in behind it. -/
theorem wpList_app2 {rest : List Oper} (hgd : o.guard = none) (s x : Operand) (t : TypeId) (ho : o.op = .call { callee := .builtin .append, args := #[s, x], argTypes := #[t, t] })
    (base : Nat) (e : TypeId) {z : Value} {size bytes : Nat} (ht : P.underlying t = some (.slice e)) (hinfo : (P.info? e).map (fun i => (i.zero, i.size, i.bytes)) = some (some z, size, bytes)) (hzs : z.cells.size = size) (hsz : 0 < size)
    {v : Value} {n : Nat} {xs : List Value} (hs : a.eval s = v) (hown : w.ownsRow base e size v n xs) (hB : base ≤ w.heap.size)
    (ad : Addr) (m c : Nat) (news : List Value) (hx : a.eval x = .slice (some ad) m c) (hl : news.length = m * size) (hnews : ∀ j u, news[j]? = some u → w.cell? (ad.add j) = some u) (h1 : ∀ u ∈ news, u.oneCell' = true)
    (h63 : n + m ≤ maxLen) (hbytes : (n + m) * bytes ≤ 140737488355328)
    (h : ∀ v' w', w'.ownsRow base e size v' (n + m) (xs ++ news) → w.grownBy w' v.ownBlock → (v'.ownBlock = v.ownBlock ∨ v'.ownBlock = some w.heap.size) → wpList P ops Q rest (a.put o.dst v') w') : wpList P ops Q (o :: rest) a w :=
  wpList_plain hgd fun _ hK => by
    obtain ⟨i, hi, hz, hsize, hby⟩ := info_parts hinfo
    obtain ⟨v', w', hrun, h2, h3, h4, h5⟩ := run_append_own_at (P := P) w base t o.type e i z size bytes ht hi hz hsize hby hzs hsz v n xs hown ad m c news hl hnews h1 h63 hbytes hB
    unfold Oper.wp execOp
    simp only [ho, resolve, invoke, builtin, Sem.run_bind, Sem.run_pure, Result.andThen_ok, List.map_toArray, List.map_cons, List.map_nil, hs, hx, hrun]
    exact hK _ _ (h v' w' h2 h3 h5)
/-- An append that says besides when the row is nil. -/
theorem wpList_app3 {rest : List Oper} (hgd : o.guard = none) (s x : Operand) (t : TypeId) (ho : o.op = .call { callee := .builtin .append, args := #[s, x], argTypes := #[t, t] })
    (base : Nat) (e : TypeId) {z : Value} {size bytes : Nat} (ht : P.underlying t = some (.slice e)) (hinfo : (P.info? e).map (fun i => (i.zero, i.size, i.bytes)) = some (some z, size, bytes)) (hzs : z.cells.size = size) (hsz : 0 < size)
    {v : Value} {n : Nat} {xs : List Value} (hs : a.eval s = v) (hown : w.ownsRow base e size v n xs) (hB : base ≤ w.heap.size)
    (ad : Addr) (m c : Nat) (news : List Value) (hx : a.eval x = .slice (some ad) m c) (hl : news.length = m * size) (hnews : ∀ j u, news[j]? = some u → w.cell? (ad.add j) = some u) (h1 : ∀ u ∈ news, u.oneCell' = true)
    (h63 : n + m ≤ maxLen) (hbytes : (n + m) * bytes ≤ 140737488355328)
    (h : ∀ v' w', w'.ownsRow base e size v' (n + m) (xs ++ news) → w.grownBy w' v.ownBlock → (v'.ownBlock = v.ownBlock ∨ v'.ownBlock = some w.heap.size) → (v' = .slice none 0 0 ↔ v = .slice none 0 0 ∧ m = 0) → wpList P ops Q rest (a.put o.dst v') w') : wpList P ops Q (o :: rest) a w :=
  wpList_plain hgd fun _ hK => by
    obtain ⟨i, hi, hz, hsize, hby⟩ := info_parts hinfo
    obtain ⟨v', w', hrun, h2, h3, h4, h5⟩ := run_append_own_at (P := P) w base t o.type e i z size bytes ht hi hz hsize hby hzs hsz v n xs hown ad m c news hl hnews h1 h63 hbytes hB
    unfold Oper.wp execOp
    simp only [ho, resolve, invoke, builtin, Sem.run_bind, Sem.run_pure, Result.andThen_ok, List.map_toArray, List.map_cons, List.map_nil, hs, hx, hrun]
    exact hK _ _ (h v' w' h2 h3 h5 h4)
/-- The same as one step of a region that draws its order. -/
theorem step_app {E : Prop} (hgd : o.guard = none) (s x : Operand) (t : TypeId) (ho : o.op = .call { callee := .builtin .append, args := #[s, x], argTypes := #[t, t] })
    (base : Nat) (e : TypeId) {z : Value} {size bytes : Nat} (ht : P.underlying t = some (.slice e)) (hinfo : (P.info? e).map (fun i => (i.zero, i.size, i.bytes)) = some (some z, size, bytes)) (hzs : z.cells.size = size) (hsz : 0 < size)
    {W : World} {v : Value} {n : Nat} {xs : List Value} (hs : a.eval s = v) (hown : w.ownsRow base e size v n xs) (hb : Below base W w) (hB : base ≤ w.heap.size)
    (ad : Addr) (m c : Nat) (news : List Value) (hx : a.eval x = .slice (some ad) m c) (hl : news.length = m * size) (hnews : ∀ j u, news[j]? = some u → w.cell? (ad.add j) = some u) (h1 : ∀ u ∈ news, u.oneCell' = true)
    (h63 : n + m ≤ maxLen) (hbytes : (n + m) * bytes ≤ 140737488355328)
    (h : ∀ v' w', w'.ownsRow base e size v' (n + m) (xs ++ news) → Below base W w' → base ≤ w'.heap.size → K (a.put o.dst v') w') :
    if Region.wanted o (yielded ops a.tmps) = true then Oper.wp P o a w K Q else E := by
  rw [if_pos (by simp [Region.wanted, hgd])]
  exact wp_app s x t ho base e ht hinfo hzs hsz hs hown hb hB ad m c news hx hl hnews h1 h63 hbytes h
end

/-- The cells of a block that has just been laid. -/
theorem cells_new (w : World) (cs : Array Value) (t : TypeId) : ∀ (j : Nat) (u : Value), cs.toList[j]? = some u → (w.alloc (.cells cs t)).cell? ((⟨w.heap.size, 0, none⟩ : Addr).add j) = some u := by
  intro j u hu
  rw [Addr.add_lit, Nat.zero_add, World.cell?_alloc_mark]
  simpa using hu
theorem cells_newD (w : World) (cs : Array Value) (t : TypeId) : ∀ (j : Nat) (u : Value), cs.toList[j]? = some u → ((w.alloc (.cells cs t)).drew).cell? ((⟨w.heap.size, 0, none⟩ : Addr).add j) = some u := cells_new w cs t
theorem one_u8 (a : Int) : ∀ u ∈ #[Value.int .u8 a].toList, u.oneCell' = true := by
  intro u hu; simp at hu; subst hu; rfl
theorem ones_u8 (a b : Int) : ∀ u ∈ #[Value.int .u8 a, Value.int .u8 b].toList, u.oneCell' = true := by
  intro u hu; simp at hu; rcases hu with rfl | rfl <;> rfl
theorem below_drewN {B : Nat} {a w : World} (h : Below B a w) (n : Nat) : Below B a (w.drewN n) := ⟨h.os, h.tape, h.output, h.size, h.block⟩
theorem own_drewN {w : World} {base e size n : Nat} {v : Value} {xs : List Value} (h : w.ownsRow base e size v n xs) (k : Nat) : (w.drewN k).ownsRow base e size v n xs := h
theorem ret_eq {v v' : Value} (h : v = v') : Ending.returned v = Ending.returned v' := by rw [h]
/-- '[]T{}' owns nothing. -/
theorem own_empty (w : World) (e : TypeId) (size : Nat) : (w.alloc (.cells #[] e)).ownsRow w.heap.size e size (.slice (some ⟨w.heap.size, 0, none⟩) 0 0) 0 [] :=
  World.ownsRow_made w #[] 0 (Nat.le_refl _) (Nat.zero_le _) (by simp)
/-- 'string(b)' of a row of the call's own. -/
theorem run_string_own {P : Program} {w : World} (src dst e : TypeId) (hs : P.underlying src = some (.slice e)) (he : P.underlying e = some (.int .u8)) (hd : P.underlying dst = some .string)
    {base n : Nat} {v : Value} {l : List UInt8} (hown : w.ownsRow base e 1 v n (l.map bv)) : (convert src dst v).run P w = .ok (.string (str l)) w := by
  obtain ⟨hlen, h | ⟨g, cap, cur, rfl, h1, h2, h3, h4, h5, h6⟩⟩ := hown
  · obtain ⟨rfl, rfl⟩ := h
    have hl : l = [] := by simpa using hlen
    subst hl
    rw [run_convert_bytes_string w src dst e none 0 0 hs he hd]
    simp [Conv.bytesToString, Sem.run_pure, str]
    rfl
  · have hn : n = l.length := by simpa using hlen.symm
    subst hn
    refine run_convert_bytes_back w src dst e ⟨g, 0, none⟩ cap l hs he hd (fun j hj => ?_)
    have hc := World.ownsRow.cellAt (w := w) (base := base) (e := e) (size := 1) (g := g) (n := l.length) (cap := cap) (xs := l.map bv) ⟨hlen, .inr ⟨g, cap, cur, rfl, h1, h2, h3, h4, h5, h6⟩⟩ j (by omega)
    rw [Addr.add_lit, Nat.zero_add, hc]
    simp [hj, bv]
theorem infoU8 : (Tryz.prog.info? 5).map (fun i => (i.zero, i.size, i.bytes)) = some (some (.int .u8 0), 1, 1) := by kernel_rfl
theorem own_lit1 {base : Nat} (w : World) (e : TypeId) (u : Value) (h : base ≤ w.heap.size) : (w.alloc (.cells #[u] e)).ownsRow base e 1 (.slice (some ⟨w.heap.size, 0, none⟩) 1 1) 1 [u] :=
  World.ownsRow_lit w #[u] 1 h (by unfold maxLen; omega) (by simp)
theorem own_below {w w1 : World} {base e size n : Nat} {v : Value} {xs : List Value} (h : w.ownsRow base e size v n xs) (hb : Below w.heap.size w w1) : w1.ownsRow base e size v n xs :=
  h.kept (row := none) ⟨hb.os, hb.tape, hb.output, hb.size, fun k hk _ => hb.block k hk⟩ (by
    rcases h.2 with ⟨rfl, _⟩ | ⟨g, c, cur, rfl, _⟩
    · exact .inl rfl
    · exact .inr (by simp [Value.ownBlock]))
theorem own_empty' {w : World} {base : Nat} (e : TypeId) (size : Nat) (h : base ≤ w.heap.size) : (w.alloc (.cells #[] e)).ownsRow base e size (.slice (some ⟨w.heap.size, 0, none⟩) 0 0) 0 [] :=
  World.ownsRow_made w #[] 0 h (Nat.zero_le _) (by simp)
theorem own_below' {w w1 : World} {base e size n : Nat} {v : Value} {xs : List Value} (h : w.ownsRow base e size v n xs) {B : Nat} (hB : w.heap.size ≤ B) (hb : Below B w w1) : w1.ownsRow base e size v n xs := by
  exact h.kept (row := none) ⟨hb.os, hb.tape, hb.output, hb.size, fun k hk _ => hb.block k (Nat.lt_of_lt_of_le hk hB)⟩ (by
    rcases h.2 with ⟨rfl, _⟩ | ⟨g, c, cur, rfl, _⟩
    · exact .inl rfl
    · exact .inr (by simp [Value.ownBlock]))
/-- A row is a slice. -/
theorem own_slice {w : World} {base e size n : Nat} {v : Value} {xs : List Value} (h : w.ownsRow base e size v n xs) : ∃ A c, v = .slice A n c := by
  rcases h.2 with ⟨rfl, h0⟩ | ⟨g, c, cur, rfl, _⟩
  · exact ⟨none, 0, by rw [h0]⟩
  · exact ⟨_, _, rfl⟩
end Go.Proofs.YtbfddabljkoapaaGreatDoor

/-
  Values as trees, plainly; how a tree lies in memory; how an argument is read as one.
-/
namespace Go.Proofs.YtbfddabljkoapaaGreatDoor
open Go.RowKit Go.ChangeShapes Go.WideShapes Go.Deep
set_option linter.unusedVariables false

theorem ret_num {k : IntKind} {a b : Int} (h : a = b) : Ending.returned (.int k a) = Ending.returned (.int k b) := by rw [h]
theorem ret_bool {a b : Bool} (h : a = b) : Ending.returned (.bool a) = Ending.returned (.bool b) := by rw [h]
/-- Block g holds just these cells, none frozen. -/
def Blk (w : World) (g : Nat) (t : TypeId) (cs : Array Value) : Prop := w.heap[g]? = some (.cells cs t (0, 0))
theorem Blk.new (w : World) (t : TypeId) (cs : Array Value) : Blk (w.alloc (.cells cs t)) w.heap.size t cs := heap_alloc_new w _
theorem Blk.lt {w : World} {g : Nat} {t : TypeId} {cs : Array Value} (h : Blk w g t cs) : g < w.heap.size := by
  rcases Nat.lt_or_ge g w.heap.size with hlt | hge
  · exact hlt
  · unfold Blk at h; rw [Array.getElem?_eq_none hge] at h; cases h
theorem Blk.alloc {w : World} {g : Nat} {t : TypeId} {cs : Array Value} (h : Blk w g t cs) (o : Obj) : Blk (w.alloc o) g t cs := (Below.heap_alloc w o g h.lt).trans h
theorem Blk.below {w w' : World} {B g : Nat} {t : TypeId} {cs : Array Value} (h : Blk w g t cs) (hb : Below B w w') (hg : g < B) : Blk w' g t cs := (hb.block g hg).trans h
theorem Blk.cell {w : World} {g : Nat} {t : TypeId} {cs : Array Value} (h : Blk w g t cs) (i : Nat) : w.cell? ⟨g, i, none⟩ = cs[i]? := cell_of_row w g i cs t (0, 0) h
theorem Blk.frozen {w : World} {g : Nat} {t : TypeId} {cs : Array Value} (h : Blk w g t cs) (i : Nat) : w.frozen? ⟨g, i, none⟩ = false := by
  unfold Blk at h
  simp [World.frozen?, h]
inductive V where
  | mk (k n e : Int) (s : ByteArray) (kids : List V)
def V.k : V → Int | .mk k _ _ _ _ => k
def V.n : V → Int | .mk _ n _ _ _ => n
def V.e : V → Int | .mk _ _ e _ _ => e
def V.s : V → ByteArray | .mk _ _ _ s _ => s
def V.kids : V → List V | .mk _ _ _ _ ks => ks
theorem V.eta (v : V) : v = .mk v.k v.n v.e v.s v.kids := by cases v; rfl

/-- The five cells of a value; its kids' slice is A, with room for cap. -/
def V.agg (v : V) (A : Option Addr) (cap : Nat) : Value := .agg #[.int .i64 v.k, .int .i64 v.n, .int .i64 v.e, .string v.s, .slice A v.kids.length cap]
def CellsAt (w : World) (b off : Nat) (v : V) (A : Option Addr) (cap : Nat) : Prop :=
  w.cell? ⟨b, off, none⟩ = some (.int .i64 v.k) ∧ w.cell? ⟨b, off + 1, none⟩ = some (.int .i64 v.n) ∧ w.cell? ⟨b, off + 2, none⟩ = some (.int .i64 v.e) ∧
  w.cell? ⟨b, off + 3, none⟩ = some (.string v.s) ∧ w.cell? ⟨b, off + 4, none⟩ = some (.slice A v.kids.length cap)

mutual
/-- The kids of a value lie at A, in blocks from lo to hi. -/
def V.at_ (w : World) (lo hi : Nat) : V → Option Addr → Prop
  | .mk _ _ _ _ ks, A => Vs.at_ w lo hi ks A
def Vs.at_ (w : World) (lo hi : Nat) : List V → Option Addr → Prop
  | [], _ => True
  | v :: r, A => (∃ b off A' cap, A = some ⟨b, off, none⟩ ∧ lo ≤ b ∧ b < hi ∧ v.kids.length ≤ cap ∧ CellsAt w b off v A' cap ∧ V.at_ w lo hi v A' ∧ Vs.at_ w lo hi r (some ⟨b, off + 5, none⟩))
end

theorem V.at_kids {w : World} {lo hi : Nat} {v : V} {A : Option Addr} : V.at_ w lo hi v A ↔ Vs.at_ w lo hi v.kids A := by
  cases v; simp [V.at_, V.kids]

mutual
theorem V.at_keep {w w' : World} {lo hi : Nat} (hk : ∀ p : Addr, lo ≤ p.block → p.block < hi → w'.cell? p = w.cell? p) : ∀ (v : V) (A : Option Addr), V.at_ w lo hi v A → V.at_ w' lo hi v A
  | .mk _ _ _ _ ks, A, h => by
    simp only [V.at_] at h ⊢
    exact Vs.at_keep hk ks A h
theorem Vs.at_keep {w w' : World} {lo hi : Nat} (hk : ∀ p : Addr, lo ≤ p.block → p.block < hi → w'.cell? p = w.cell? p) : ∀ (l : List V) (A : Option Addr), Vs.at_ w lo hi l A → Vs.at_ w' lo hi l A
  | [], A, _ => by simp only [Vs.at_]
  | v :: r, A, h => by
    simp only [Vs.at_] at h ⊢
    obtain ⟨b, off, A', cap, rfl, h1, h2, h3, ⟨c0, c1, c2, c3, c4⟩, h5, h6⟩ := h
    have k := fun j => hk ⟨b, j, none⟩ h1 h2
    exact ⟨b, off, A', cap, rfl, h1, h2, h3, ⟨(k _).trans c0, (k _).trans c1, (k _).trans c2, (k _).trans c3, (k _).trans c4⟩, V.at_keep hk v A' h5, Vs.at_keep hk r _ h6⟩
end
mutual
theorem V.at_more {w : World} {lo hi lo' hi' : Nat} (h1 : lo' ≤ lo) (h2 : hi ≤ hi') : ∀ (v : V) (A : Option Addr), V.at_ w lo hi v A → V.at_ w lo' hi' v A
  | .mk _ _ _ _ ks, A, h => by
    simp only [V.at_] at h ⊢
    exact Vs.at_more h1 h2 ks A h
theorem Vs.at_more {w : World} {lo hi lo' hi' : Nat} (h1 : lo' ≤ lo) (h2 : hi ≤ hi') : ∀ (l : List V) (A : Option Addr), Vs.at_ w lo hi l A → Vs.at_ w lo' hi' l A
  | [], A, _ => by simp only [Vs.at_]
  | v :: r, A, h => by
    simp only [Vs.at_] at h ⊢
    obtain ⟨b, off, A', cap, rfl, g1, g2, h3, h4, h5, h6⟩ := h
    exact ⟨b, off, A', cap, rfl, Nat.le_trans h1 g1, Nat.lt_of_lt_of_le g2 h2, h3, h4, V.at_more h1 h2 v A' h5, Vs.at_more h1 h2 r _ h6⟩
end
theorem Vs.at_below {w w' : World} {lo hi B : Nat} {l : List V} {A : Option Addr} (h : Vs.at_ w lo hi l A) (hb : Below B w w') (hB : hi ≤ B) : Vs.at_ w' lo hi l A :=
  Vs.at_keep (fun _ _ hp => hb.cell (Nat.lt_of_lt_of_le hp hB)) l A h
/-- Kids are where they were, behind a new block. -/
theorem Vs.at_alloc {w : World} {lo hi : Nat} {l : List V} {A : Option Addr} (h : Vs.at_ w lo hi l A) (hh : hi ≤ w.heap.size) (o : Obj) : Vs.at_ (w.alloc o) lo hi l A :=
  Vs.at_keep (fun p _ hp => World.cell?_alloc_lt _ _ _ (by omega)) _ _ h
theorem Vs.at_drew {w : World} {lo hi : Nat} {l : List V} {A : Option Addr} (h : Vs.at_ w lo hi l A) : Vs.at_ w.drew lo hi l A :=
  Vs.at_keep (w := w) (w' := w.drew) (fun p _ _ => rfl) _ _ h
theorem Vs.at_set {w : World} {lo hi : Nat} {l : List V} {A : Option Addr} {p : Addr} {u : Value} (h : Vs.at_ w lo hi l A) (hp : p.block < lo ∨ hi ≤ p.block) : Vs.at_ (w.setCell p u) lo hi l A :=
  Vs.at_keep (fun q h1 h2 => World.cell?_setCell_other w p q u (fun e => by subst e; omega)) l A h
/-- Element i of a slice of values. -/
theorem Vs.at_get {w : World} {lo hi : Nat} : ∀ {l : List V} {A : Option Addr} (i : Nat) (hi' : i < l.length), Vs.at_ w lo hi l A →
    ∃ b off A' cap, A = some ⟨b, off, none⟩ ∧ lo ≤ b ∧ b < hi ∧ (l[i]).kids.length ≤ cap ∧ CellsAt w b (off + i * 5) l[i] A' cap ∧ Vs.at_ w lo hi (l[i]).kids A'
  | v :: r, A, 0, _, h => by
    simp only [Vs.at_] at h
    obtain ⟨b, off, A', cap, rfl, h1, h2, h3, h4, h5, h6⟩ := h
    exact ⟨b, off, A', cap, rfl, h1, h2, h3, by simpa using h4, V.at_kids.1 h5⟩
  | v :: r, A, i + 1, hi', h => by
    simp only [Vs.at_] at h
    obtain ⟨b, off, A', cap, rfl, h1, h2, h3, h4, h5, h6⟩ := h
    obtain ⟨b', off', A'', cap', e, g1, g2, g3, g4, g5⟩ := Vs.at_get i (by simpa using hi') h6
    injection e with e
    injection e with e1 e2
    subst e1 e2
    refine ⟨b, off, A'', cap', rfl, g1, g2, by simpa using g3, ?_, by simpa using g5⟩
    have : off + 5 + i * 5 = off + (i + 1) * 5 := by omega
    rw [this] at g4
    simpa using g4

mutual
/-- How many values there are in a value. -/
def V.nodes : V → Nat
  | .mk _ _ _ _ ks => Vs.nodes ks + 1
def Vs.nodes : List V → Nat
  | [] => 0
  | v :: r => v.nodes + Vs.nodes r
end
mutual
/-- What the laws' own measure takes off: letters, and one for each kid. -/
def V.weight : V → Nat
  | .mk _ _ _ s ks => s.size + Vs.weight ks
def Vs.weight : List V → Nat
  | [] => 0
  | v :: r => v.weight + 1 + Vs.weight r
end
/-- A number of 64 bits. -/
def inI (x : Int) : Prop := -9223372036854775808 ≤ x ∧ x ≤ 9223372036854775807
mutual
/-- Every length is one that Go can count, every number one of 64 bits. -/
def V.fits : V → Prop
  | .mk k n e s ks => s.size ≤ 9223372036854775807 ∧ ks.length ≤ 9223372036854775807 ∧ Vs.fits ks ∧ inI k ∧ inI n ∧ inI e
def Vs.fits : List V → Prop
  | [] => True
  | v :: r => v.fits ∧ Vs.fits r
end
theorem V.nodes_eq (v : V) : v.nodes = Vs.nodes v.kids + 1 := by cases v; simp [V.nodes, V.kids]
theorem V.weight_eq (v : V) : v.weight = v.s.size + Vs.weight v.kids := by cases v; simp [V.weight, V.kids, V.s]
theorem V.fits_eq (v : V) : v.fits ↔ v.s.size ≤ 9223372036854775807 ∧ v.kids.length ≤ 9223372036854775807 ∧ Vs.fits v.kids ∧ inI v.k ∧ inI v.n ∧ inI v.e := by cases v; simp [V.fits, V.kids, V.s, V.k, V.n, V.e]
theorem Vs.fits_get : ∀ {l : List V} (i : Nat) (h : i < l.length), Vs.fits l → (l[i]).fits
  | v :: r, 0, _, h => by simp only [Vs.fits] at h; exact h.1
  | v :: r, i + 1, hi, h => by simp only [Vs.fits] at h; exact Vs.fits_get i (by simpa using hi) h.2
theorem Vs.nodes_get : ∀ {l : List V} (i : Nat) (h : i < l.length), (l[i]).nodes ≤ Vs.nodes l
  | v :: r, 0, _ => by simp only [Vs.nodes, List.getElem_cons_zero]; omega
  | v :: r, i + 1, hi => by
    have := Vs.nodes_get (l := r) i (by simpa using hi)
    simp only [Vs.nodes, List.getElem_cons_succ]; omega
theorem V.nodes_pos (v : V) : 1 ≤ v.nodes := by rw [V.nodes_eq]; omega
theorem Vs.weight_snoc (l : List V) (v : V) : Vs.weight (l ++ [v]) = Vs.weight l + v.weight + 1 := by
  induction l with
  | nil => simp [Vs.weight]
  | cons a l ih => simp only [List.cons_append, Vs.weight, ih]; omega
theorem Vs.weight_take (l : List V) : ∀ i, Vs.weight (l.take i) + Vs.weight (l.drop i) = Vs.weight l := by
  induction l with
  | nil => intro i; simp [Vs.weight]
  | cons a l ih =>
    intro i
    cases i with
    | zero => simp [Vs.weight]
    | succ i => simp only [List.take_succ_cons, List.drop_succ_cons, Vs.weight]; have := ih i; omega
theorem Vs.weight_step (l : List V) (i : Nat) (h : i < l.length) : Vs.weight (l.take (i + 1)) = Vs.weight (l.take i) + (l[i]).weight + 1 := by
  rw [List.take_succ_eq_append_getElem h, Vs.weight_snoc]
theorem Vs.len_le (l : List V) : l.length ≤ Vs.weight l := by
  induction l with
  | nil => simp
  | cons a l ih => simp only [List.length_cons, Vs.weight]; omega
theorem Vs.weight_len (l : List V) (i : Nat) : Vs.weight (l.take i) + (l.length - i) ≤ Vs.weight l := by
  have h1 := Vs.weight_take l i
  have h2 := Vs.len_le (l.drop i)
  rw [List.length_drop] at h2
  omega
theorem Vs.len_nodes (l : List V) : l.length ≤ Vs.nodes l := by
  induction l with
  | nil => simp
  | cons a l ih => simp only [List.length_cons, Vs.nodes]; have := V.nodes_pos a; omega
/-- What is left of a measure, -1 if it doesn't suffice. -/
def szR (L : Int) (W : Nat) : Int := if (W : Int) ≤ L then L - W else -1

/-- A slice of values, out of its elements. -/
theorem Vs.at_of {w : World} {lo hi b : Nat} (h1 : lo ≤ b) (h2 : b < hi) : ∀ (l : List V) (off : Nat),
    (∀ i (h : i < l.length), ∃ A' cap, (l[i]).kids.length ≤ cap ∧ CellsAt w b (off + i * 5) l[i] A' cap ∧ Vs.at_ w lo hi (l[i]).kids A') → Vs.at_ w lo hi l (some ⟨b, off, none⟩)
  | [], _, _ => by simp only [Vs.at_]
  | v :: r, off, h => by
    simp only [Vs.at_]
    obtain ⟨A', cap, k1, k2, k3⟩ := h 0 (by simp)
    refine ⟨b, off, A', cap, rfl, h1, h2, by simpa using k1, by simpa using k2, V.at_kids.2 (by simpa using k3), Vs.at_of h1 h2 r (off + 5) fun i hi => ?_⟩
    obtain ⟨A', cap, k1, k2, k3⟩ := h (i + 1) (by simpa using hi)
    refine ⟨A', cap, by simpa using k1, ?_, by simpa using k3⟩
    rw [show off + 5 + i * 5 = off + (i + 1) * 5 by omega]
    simpa using k2
/-- A value stored into five cells. -/
def put5 (w : World) (G o : Nat) (v : V) (A : Option Addr) (c : Nat) : World :=
  ((((w.setCell ⟨G, o, none⟩ (.int .i64 v.k)).setCell ⟨G, o + 1, none⟩ (.int .i64 v.n)).setCell ⟨G, o + 2, none⟩ (.int .i64 v.e)).setCell ⟨G, o + 3, none⟩ (.string v.s)).setCell ⟨G, o + 4, none⟩ (.slice A v.kids.length c)
theorem addr_ne {G q : Nat} {p : Addr} (h : p.block ≠ G ∨ p.off ≠ q) : (⟨G, q, none⟩ : Addr) ≠ p := by
  rintro rfl
  rcases h with h | h <;> exact h rfl
theorem put5_other {w : World} {G o : Nat} {v : V} {A : Option Addr} {c : Nat} {p : Addr} (h : p.block ≠ G ∨ p.off < o ∨ o + 5 ≤ p.off) : (put5 w G o v A c).cell? p = w.cell? p := by
  unfold put5
  rw [World.cell?_setCell_other _ _ _ _ (addr_ne (G := G) (q := o + 4) (by omega)), World.cell?_setCell_other _ _ _ _ (addr_ne (G := G) (q := o + 3) (by omega)), World.cell?_setCell_other _ _ _ _ (addr_ne (G := G) (q := o + 2) (by omega)), World.cell?_setCell_other _ _ _ _ (addr_ne (G := G) (q := o + 1) (by omega)), World.cell?_setCell_other _ _ _ _ (addr_ne (G := G) (q := o) (by omega))]
theorem put5_at {w : World} {G o : Nat} {v : V} {A : Option Addr} {c : Nat} {u0 u1 u2 u3 u4 : Value} (h0 : w.cell? ⟨G, o, none⟩ = some u0) (h1 : w.cell? ⟨G, o + 1, none⟩ = some u1) (h2 : w.cell? ⟨G, o + 2, none⟩ = some u2)
    (h3 : w.cell? ⟨G, o + 3, none⟩ = some u3) (h4 : w.cell? ⟨G, o + 4, none⟩ = some u4) : CellsAt (put5 w G o v A c) G o v A c := by
  have ne : ∀ {a b : Nat}, a ≠ b → (⟨G, a, none⟩ : Addr) ≠ ⟨G, b, none⟩ := fun h e => h (by injection e)
  unfold put5
  refine ⟨?_, ?_, ?_, ?_, ?_⟩
  · rw [World.cell?_setCell_other _ _ _ _ (ne (by omega)), World.cell?_setCell_other _ _ _ _ (ne (by omega)), World.cell?_setCell_other _ _ _ _ (ne (by omega)), World.cell?_setCell_other _ _ _ _ (ne (by omega))]
    exact World.cell?_setCell_same _ _ _ h0
  · rw [World.cell?_setCell_other _ _ _ _ (ne (by omega)), World.cell?_setCell_other _ _ _ _ (ne (by omega)), World.cell?_setCell_other _ _ _ _ (ne (by omega))]
    exact World.cell?_setCell_same _ _ _ ((World.cell?_setCell_other _ _ _ _ (ne (by omega))).trans h1)
  · rw [World.cell?_setCell_other _ _ _ _ (ne (by omega)), World.cell?_setCell_other _ _ _ _ (ne (by omega))]
    exact World.cell?_setCell_same _ _ _ ((World.cell?_setCell_other _ _ _ _ (ne (by omega))).trans ((World.cell?_setCell_other _ _ _ _ (ne (by omega))).trans h2))
  · rw [World.cell?_setCell_other _ _ _ _ (ne (by omega))]
    exact World.cell?_setCell_same _ _ _ ((World.cell?_setCell_other _ _ _ _ (ne (by omega))).trans ((World.cell?_setCell_other _ _ _ _ (ne (by omega))).trans ((World.cell?_setCell_other _ _ _ _ (ne (by omega))).trans h3)))
  · exact World.cell?_setCell_same _ _ _ ((World.cell?_setCell_other _ _ _ _ (ne (by omega))).trans ((World.cell?_setCell_other _ _ _ _ (ne (by omega))).trans ((World.cell?_setCell_other _ _ _ _ (ne (by omega))).trans ((World.cell?_setCell_other _ _ _ _ (ne (by omega))).trans h4))))
theorem put5_size (w : World) (G o : Nat) (v : V) (A : Option Addr) (c : Nat) : (put5 w G o v A c).heap.size = w.heap.size := by simp [put5]
theorem put5_own {w : World} {G o base n cap : Nat} {e : TypeId} {v : V} {A : Option Addr} {c : Nat} {xs : List Value} (h : w.ownsRow base e 5 (.slice (some ⟨G, 0, none⟩) n cap) n xs) : ∃ xs', (put5 w G o v A c).ownsRow base e 5 (.slice (some ⟨G, 0, none⟩) n cap) n xs' :=
  ⟨_, ((((((h.stored o _).1.stored (o + 1) _).1.stored (o + 2) _).1.stored (o + 3) _).1.stored (o + 4) _).1)⟩
theorem put5_below {a w : World} {B G o : Nat} {v : V} {A : Option Addr} {c : Nat} (h : Below B a w) (hG : B ≤ G) : Below B a (put5 w G o v A c) :=
  ((((h.setCell (p := ⟨G, o, none⟩) hG _).setCell (p := ⟨G, o + 1, none⟩) hG _).setCell (p := ⟨G, o + 2, none⟩) hG _).setCell (p := ⟨G, o + 3, none⟩) hG _).setCell (p := ⟨G, o + 4, none⟩) hG _
theorem CellsAt.keep {w w' : World} {b off : Nat} {v : V} {A : Option Addr} {c : Nat} (h : CellsAt w b off v A c) (hk : ∀ q, q < 5 → w'.cell? ⟨b, off + q, none⟩ = w.cell? ⟨b, off + q, none⟩) : CellsAt w' b off v A c :=
  ⟨(hk 0 (by omega)).trans h.1, (hk 1 (by omega)).trans h.2.1, (hk 2 (by omega)).trans h.2.2.1, (hk 3 (by omega)).trans h.2.2.2.1, (hk 4 (by omega)).trans h.2.2.2.2⟩
theorem Blk.five {w : World} {g : Nat} {t : TypeId} {v0 v1 v2 v3 v4 : Value} (h : Blk w g t #[v0, v1, v2, v3, v4]) :
    w.cell? ⟨g, 0, none⟩ = some v0 ∧ w.cell? ⟨g, 1, none⟩ = some v1 ∧ w.cell? ⟨g, 2, none⟩ = some v2 ∧ w.cell? ⟨g, 3, none⟩ = some v3 ∧ w.cell? ⟨g, 4, none⟩ = some v4 :=
  ⟨h.cell 0, h.cell 1, h.cell 2, h.cell 3, h.cell 4⟩
theorem Blk.drew {w : World} {g : Nat} {t : TypeId} {cs : Array Value} (h : Blk w g t cs) : Blk w.drew g t cs := h
mutual
theorem V.nodes_weight : ∀ v : V, v.nodes ≤ v.weight + 1
  | .mk _ _ _ _ ks => by simp only [V.nodes, V.weight]; have := Vs.nodes_weight ks; omega
theorem Vs.nodes_weight : ∀ l : List V, Vs.nodes l ≤ Vs.weight l
  | [] => by simp [Vs.nodes]
  | v :: r => by simp only [Vs.nodes, Vs.weight]; have h1 := V.nodes_weight v; have h2 := Vs.nodes_weight r; omega
end
/-- What holds of every value whose kids it holds of. -/
theorem V.all {P : V → Prop} (h : ∀ v, (∀ i (hi : i < v.kids.length), P v.kids[i]) → P v) : ∀ v, P v := by
  have key : ∀ N (v : V), v.nodes ≤ N → P v := by
    intro N
    induction N with
    | zero => intro v hv; have := V.nodes_pos v; omega
    | succ N ih =>
      intro v hv
      refine h v fun i hi => ih _ ?_
      have h1 := Vs.nodes_get i hi
      rw [V.nodes_eq] at hv
      omega
  exact fun v => key _ v (Nat.le_refl _)
end Go.Proofs.YtbfddabljkoapaaGreatDoor

/-
  Nodes: how many values there are in a value; a walk over a value, node by node.
-/
namespace Go.Proofs.YtbfddabljkoapaaGreatDoor
open Go.RowKit
set_option linter.unusedVariables false
set_option maxRecDepth 100000
set_option linter.unusedSimpArgs false

theorem Vs.nodes_snoc (l : List V) (v : V) : Vs.nodes (l ++ [v]) = Vs.nodes l + v.nodes := by
  induction l with
  | nil => simp [Vs.nodes]
  | cons a l ih => simp only [List.cons_append, Vs.nodes, ih]; omega
theorem Vs.nodes_step (l : List V) (i : Nat) (h : i < l.length) : Vs.nodes (l.take (i + 1)) = Vs.nodes (l.take i) + (l[i]).nodes := by
  rw [List.take_succ_eq_append_getElem h, Vs.nodes_snoc]
theorem Vs.nodes_take (l : List V) : ∀ i, Vs.nodes (l.take i) ≤ Vs.nodes l := by
  induction l with
  | nil => intro i; simp
  | cons a l ih =>
    intro i
    cases i with
    | zero => simp [Vs.nodes]
    | succ i => simp only [List.take_succ_cons, Vs.nodes]; have := ih i; omega

def SpecNodesSaid (v : V) : Prop := ∀ (A : Option Addr) (cap : Nat) (w : World), v.nodes ≤ 1048577 → Vs.at_ w 0 w.heap.size v.kids A →
    Calls Tryz.prog 92 #[v.agg A cap] w fun e w' => e = .returned (.int .i64 v.nodes) ∧ Below w.heap.size w w'

set_option maxHeartbeats 1000000 in
theorem specNodes_step (v : V) (hk : ∀ i (h : i < v.kids.length), SpecNodesSaid v.kids[i]) : SpecNodesSaid v := by
  intro A cap w hn hat
  have HD := Lib.hid (V.nodes_eq v)
  rw [V.nodes_eq] at hn
  have hl : v.kids.length ≤ 1048576 := by have := Vs.len_nodes v.kids; omega
  have HK := fun (i : Nat) (h : i < v.kids.length) (A' : Option Addr) (c : Nat) (w' : World) (h1 : Vs.at_ w' 0 w'.heap.size (v.kids[i]).kids A') => hk i h A' c w' (by have := Vs.nodes_get i h; omega) h1
  have HC := Lib.hid HK
  clear HK hk
  have HA := Lib.hid hat
  clear hat
  unfold V.agg
  go_enter Tryz.func92, Tryz.ntmps92
  go_wp2_with fail
  go_loopw [3, 4] (fun d i wr => ∃ j : Nat, j ≤ v.kids.length ∧ i = .int .i64 j ∧ d = .int .i64 ((Vs.nodes (v.kids.take j) : Int) + 1) ∧ Blk wr w.heap.size 43 #[.int .i64 v.k, .int .i64 v.n, .int .i64 v.e, .string v.s, .slice A v.kids.length cap] ∧ Below w.heap.size w wr) (fun _ i _ => v.kids.length - (intOf i).toNat)
  case atStart => exact ⟨0, Nat.zero_le _, rfl, rfl, Blk.new _ _ _, (Below.refl _ _).alloc (Nat.le_refl _) _⟩
  case round =>
    obtain ⟨j, hj, rfl, rfl, B, hb⟩ := hrel
    have b4 : wr.cell? ⟨w.heap.size, 4, none⟩ = some (.slice A v.kids.length cap) := B.cell 4
    by_cases hlt : j < v.kids.length
    · have hst := Vs.nodes_step v.kids j hlt
      have hd4 := Vs.nodes_take v.kids j
      have hd5 := Vs.nodes_get j hlt
      have HST := Lib.hid hst
      clear hst
      obtain ⟨b, off, A', cap', rfl, g1, g2, g3, ⟨c0, c1, c2, c3, c4⟩, g5⟩ := Vs.at_get j hlt (Vs.at_below HA.out hb (Nat.le_refl _))
      go_wp2_with fail
      refine (HC.out j hlt A' cap' _ (Vs.at_more (Nat.le_refl _) hb.size _ _ g5)).mono ?_
      rintro e w1 ⟨rfl, hb1⟩
      have hbw : Below w.heap.size w w1 := hb.trans (hb1.mono hb.size)
      have B' := B.below hb1 B.lt
      clear c0 c1 c2 c3 c4 b4
      go_wp2_with fail
      go_roundw
      case rel => exact ⟨j + 1, by omega, by go_num, by rw [HST.out]; go_num, B', hbw⟩
      case measure => simp [intOf]; omega
    · obtain rfl : j = v.kids.length := by omega
      go_wp2_with fail
      go_ret
      exact ⟨ret_num (by rw [HD.out, List.take_length]; omega), hb⟩
theorem specNodes : ∀ v, SpecNodesSaid v := V.all specNodes_step
end Go.Proofs.YtbfddabljkoapaaGreatDoor

/-
  A text made of bytes that are written out.
-/
namespace Go.Proofs.YtbfddabljkoapaaGreatDoor
open Go.RowKit
set_option linter.unusedVariables false

/-- A number as a byte. -/
def byteI (x : Int) : UInt8 := UInt8.ofNat x.toNat
/-- 'string([]byte{..})' -/
theorem run_string_lit {P : Program} (src dst e : TypeId) (hs : P.underlying src = some (.slice e)) (he : P.underlying e = some (.int .u8)) (hd : P.underlying dst = some .string) (ns : List Int) (c : Nat) (w : World) :
    (convert src dst (.slice (some ⟨w.heap.size, 0, none⟩) ns.length c)).run P (w.alloc (.cells (ns.map (Value.int .u8)).toArray e)) = .ok (.string (str (ns.map fun n => UInt8.ofNat n.toNat))) (w.alloc (.cells (ns.map (Value.int .u8)).toArray e)) := by
  rw [run_convert_bytes_string _ src dst e _ _ _ hs he hd]
  have hl := run_loadCells_list (P := P) (w.alloc (.cells (ns.map (Value.int .u8)).toArray e)) ⟨w.heap.size, 0, none⟩ (ns.map (Value.int .u8)) (fun j v hj => by
    have := cells_new w (ns.map (Value.int .u8)).toArray e j v (by simpa using hj)
    simpa using this)
  simp only [List.length_map] at hl
  rw [run_bytesToString _ _ _ c ns hl]
  congr 2
  have hf : ∀ (l : List Int) (r : ByteArray), l.foldl (fun r n => r.push (UInt8.ofNat n.toNat)) r = ⟨r.data ++ (l.map fun n => UInt8.ofNat n.toNat).toArray⟩ := by
    intro l
    induction l with
    | nil => intro r; simp
    | cons n l ih => intro r; rw [List.foldl_cons, ih]; simp [ByteArray.push]
  rw [hf]
  simp [str]
theorem lit1 {P : Program} (src dst e : TypeId) (hs : P.underlying src = some (.slice e)) (he : P.underlying e = some (.int .u8)) (hd : P.underlying dst = some .string) : ∀ (w : World) (a : Int),
    (convert src dst (.slice (some ⟨w.heap.size, 0, none⟩) 1 1)).run P (w.alloc (.cells #[.int .u8 a] e)) = .ok (.string (str [byteI a])) (w.alloc (.cells #[.int .u8 a] e)) := fun w a => run_string_lit src dst e hs he hd [a] 1 w
theorem lit2 {P : Program} (src dst e : TypeId) (hs : P.underlying src = some (.slice e)) (he : P.underlying e = some (.int .u8)) (hd : P.underlying dst = some .string) : ∀ (w : World) (a b : Int),
    (convert src dst (.slice (some ⟨w.heap.size, 0, none⟩) 2 2)).run P (w.alloc (.cells #[.int .u8 a, .int .u8 b] e)) = .ok (.string (str [byteI a, byteI b])) (w.alloc (.cells #[.int .u8 a, .int .u8 b] e)) := fun w a b => run_string_lit src dst e hs he hd [a, b] 2 w
theorem lit3 {P : Program} (src dst e : TypeId) (hs : P.underlying src = some (.slice e)) (he : P.underlying e = some (.int .u8)) (hd : P.underlying dst = some .string) : ∀ (w : World) (a b c : Int),
    (convert src dst (.slice (some ⟨w.heap.size, 0, none⟩) 3 3)).run P (w.alloc (.cells #[.int .u8 a, .int .u8 b, .int .u8 c] e)) = .ok (.string (str [byteI a, byteI b, byteI c])) (w.alloc (.cells #[.int .u8 a, .int .u8 b, .int .u8 c] e)) := fun w a b c => run_string_lit src dst e hs he hd [a, b, c] 3 w
theorem lit4 {P : Program} (src dst e : TypeId) (hs : P.underlying src = some (.slice e)) (he : P.underlying e = some (.int .u8)) (hd : P.underlying dst = some .string) : ∀ (w : World) (a b c d : Int),
    (convert src dst (.slice (some ⟨w.heap.size, 0, none⟩) 4 4)).run P (w.alloc (.cells #[.int .u8 a, .int .u8 b, .int .u8 c, .int .u8 d] e)) = .ok (.string (str [byteI a, byteI b, byteI c, byteI d])) (w.alloc (.cells #[.int .u8 a, .int .u8 b, .int .u8 c, .int .u8 d] e)) := fun w a b c d => run_string_lit src dst e hs he hd [a, b, c, d] 4 w
theorem str_len (l : List UInt8) : (str l).size = l.length := by simp [str, ByteArray.size]
end Go.Proofs.YtbfddabljkoapaaGreatDoor

/-
  The bytes of a code point, plainly.
-/
namespace Go.Proofs.YtbfddabljkoapaaGreatDoor
open Go.RowKit
set_option linter.unusedVariables false

/-- A number is a code point. -/
def isSg (n : Int) : Bool := decide ((0 ≤ n ∧ n < 55296) ∨ (57343 < n ∧ n ≤ 1114111))
/-- What PutSign hands back. -/
def signB (n : Int) : ByteArray := if isSg n then Utf8.encode n else ⟨#[]⟩

theorem ofInt_i64 (a : Nat) (ha : a < 9223372036854775808) : (BitVec.ofInt 64 (a : Int)).toNat = a := by
  rw [BitVec.ofInt_natCast, BitVec.toNat_ofNat]; omega
theorem and63 (n : Nat) (h : n < 9223372036854775808) : bits .and .i64 (n : Int) 63 = ((n % 64 : Nat) : Int) := by
  have h1 := ofInt_i64 n h
  have h2 := ofInt_i64 63 (by omega)
  show IntKind.i64.wrap ((BitVec.ofInt 64 (n : Int) &&& BitVec.ofInt 64 ((63 : Nat) : Int)).toNat : Int) = _
  rw [BitVec.toNat_and, h1, h2, Nat.and_two_pow_sub_one_eq_mod n 6, IntKind.wrap_i64]
  omega
theorem and63d (n d : Nat) (h : n < 9223372036854775808) : bits .and .i64 ((n : Int) / (d : Int)) 63 = ((n / d % 64 : Nat) : Int) := by
  have : n / d ≤ n := Nat.div_le_self _ _
  rw [show (n : Int) / (d : Int) = ((n / d : Nat) : Int) by simp]
  exact and63 _ (by omega)

theorem valid_of (n : Nat) (h : n < 55296 ∨ (57343 < n ∧ n < 1114112)) : Utf8.valid (n : Int) = true := by
  unfold Utf8.valid; simp; omega
theorem enc1 (n : Nat) (h : n < 128) : str [byteI n] = Utf8.encode (n : Int) := by
  have hv := valid_of n (by omega)
  unfold Utf8.encode byteI
  simp only [hv, if_true, Int.toNat_natCast]
  rw [if_pos h]
  rfl
theorem enc2 (n : Nat) (h : 128 ≤ n ∧ n < 2048) : str [byteI (192 + (n : Int) / 64), byteI (128 + (n : Int) % 64)] = Utf8.encode (n : Int) := by
  have hv := valid_of n (by omega)
  unfold Utf8.encode byteI
  simp only [hv, if_true, Int.toNat_natCast]
  rw [if_neg (by omega), if_pos (by omega), show (192 + (n : Int) / 64).toNat = 192 + n / 64 by omega, show (128 + (n : Int) % 64).toNat = 128 + n % 64 by omega]
  rfl
theorem enc3 (n : Nat) (h : (2048 ≤ n ∧ n < 55296) ∨ (57343 < n ∧ n < 65536)) : str [byteI (224 + (n : Int) / 4096), byteI (128 + (n : Int) / 64 % 64), byteI (128 + (n : Int) % 64)] = Utf8.encode (n : Int) := by
  have hv := valid_of n (by omega)
  unfold Utf8.encode byteI
  simp only [hv, if_true, Int.toNat_natCast]
  rw [if_neg (by omega), if_neg (by omega), if_pos (by omega), show (224 + (n : Int) / 4096).toNat = 224 + n / 4096 by omega, show (128 + (n : Int) % 64).toNat = 128 + n % 64 by omega, show (128 + (n : Int) / 64 % 64).toNat = 128 + n / 64 % 64 by omega]
  rfl
theorem enc4 (n : Nat) (h : 65536 ≤ n ∧ n < 1114112) : str [byteI (240 + (n : Int) / 262144), byteI (128 + (n : Int) / 4096 % 64), byteI (128 + (n : Int) / 64 % 64), byteI (128 + (n : Int) % 64)] = Utf8.encode (n : Int) := by
  have hv := valid_of n (by omega)
  unfold Utf8.encode byteI
  simp only [hv, if_true, Int.toNat_natCast]
  rw [if_neg (by omega), if_neg (by omega), if_neg (by omega), show (240 + (n : Int) / 262144).toNat = 240 + n / 262144 by omega, show (128 + (n : Int) / 4096 % 64).toNat = 128 + n / 4096 % 64 by omega, show (128 + (n : Int) % 64).toNat = 128 + n % 64 by omega, show (128 + (n : Int) / 64 % 64).toNat = 128 + n / 64 % 64 by omega]
  rfl
end Go.Proofs.YtbfddabljkoapaaGreatDoor

/-
  A piece of a text; plain.
-/
namespace Go.Proofs.YtbfddabljkoapaaGreatDoor
open Go.RowKit

/-- The first bytes of a piece. -/
def piece (s : ByteArray) (i n : Nat) : List UInt8 := (s.data.toList.drop i).take n
theorem piece_succ (s : ByteArray) (i n : Nat) (h : i + n < s.size) : piece s i (n + 1) = piece s i n ++ [s[i + n]] := by
  have hl : n < (s.data.toList.drop i).length := by simp; have : s.data.size = s.size := rfl; omega
  unfold piece
  rw [List.take_succ_eq_append_getElem hl, List.getElem_drop]
  rfl
theorem piece_len (s : ByteArray) (i n : Nat) (h : i + n ≤ s.size) : (piece s i n).length = n := by
  unfold piece
  have : s.data.size = s.size := rfl
  simp; omega
end Go.Proofs.YtbfddabljkoapaaGreatDoor

/-
  GetSign, plainly: the first byte's say, the bytes behind it, and the model's own decoder.
-/
namespace Go.Proofs.YtbfddabljkoapaaGreatDoor
open Go.RowKit
set_option linter.unusedVariables false

/-- The bytes of a sign, as numbers. -/
def encN (n : Nat) : List Nat :=
  if n < 128 then [n] else if n < 2048 then [192 + n / 64, 128 + n % 64] else if n < 65536 then [224 + n / 4096, 128 + n / 64 % 64, 128 + n % 64]
  else [240 + n / 262144, 128 + n / 4096 % 64, 128 + n / 64 % 64, 128 + n % 64]
/-- The bytes of PutSign's answer, as numbers. -/
def sgN (n : Nat) : List Nat := if n < 55296 ∨ (57343 < n ∧ n < 1114112) then encN n else []
theorem sgN_eq (n : Nat) : (signB (n : Int)).data.toList.map UInt8.toNat = sgN n := by
  unfold signB sgN
  by_cases h : n < 55296 ∨ (57343 < n ∧ n < 1114112)
  · have hv := valid_of n h
    rw [if_pos h, if_pos (by unfold isSg; simp; omega)]
    unfold Utf8.encode encN
    simp only [hv, if_true, Int.toNat_natCast]
    by_cases h1 : n < 128
    · rw [if_pos h1, if_pos h1]; simp; omega
    · rw [if_neg h1, if_neg h1]
      by_cases h2 : n < 2048
      · rw [if_pos h2, if_pos h2]; simp; omega
      · rw [if_neg h2, if_neg h2]
        by_cases h3 : n < 65536
        · rw [if_pos h3, if_pos h3]; simp; omega
        · rw [if_neg h3, if_neg h3]; simp; omega
  · rw [if_neg h, if_neg (by unfold isSg; simp; omega)]
    rfl
theorem get_get! (s : ByteArray) (i : Nat) (h : i < s.size) : s[i] = s.get! i := by
  cases s with
  | mk d => exact (getElem!_pos d i h).symm
/-- A piece's bytes, as numbers. -/
def pcN (s : ByteArray) (i m : Nat) : List Nat := (List.range m).map fun k => (s.get! (i + k)).toNat
theorem pcN_eq (s : ByteArray) (i : Nat) : ∀ m, i + m ≤ s.size → (piece s i m).map UInt8.toNat = pcN s i m
  | 0, _ => by simp [piece, pcN]
  | m + 1, h => by
    rw [piece_succ s i m (by omega), List.map_append, pcN_eq s i m (by omega), get_get! _ _ (by omega)]
    simp [pcN, List.range_succ]
theorem extract_piece (s : ByteArray) (i m : Nat) : (s.extract i (i + m)).data.toList = piece s i m := by
  unfold piece
  simp [ByteArray.data_extract]
theorem ba_ext {a b : ByteArray} (h : a.data.toList = b.data.toList) : a = b := by
  cases a; cases b; congr 1; exact Array.toList_inj.1 h
theorem map_toNat_inj {a b : List UInt8} (h : a.map UInt8.toNat = b.map UInt8.toNat) : a = b :=
  (List.map_inj_right (fun x y h => UInt8.toNat_inj.1 h)).1 h
theorem sg_cmp (s : ByteArray) (i m n : Nat) (h : i + m ≤ s.size) : signB (n : Int) = s.extract i (i + m) ↔ sgN n = pcN s i m := by
  rw [← sgN_eq, ← pcN_eq s i m h, ← extract_piece]
  constructor
  · intro h; rw [h]
  · intro h; exact ba_ext (map_toNat_inj h)

/-- GetSign reads a sign at a place. -/
def gsOk (s : ByteArray) (i : Int) : Prop := 0 ≤ i ∧ i < s.size ∧ ¬ ((Utf8.decode s i.toNat).1 = 65533 ∧ (Utf8.decode s i.toNat).2 < 3)
instance (s : ByteArray) (i : Int) : Decidable (gsOk s i) := by unfold gsOk; infer_instance
/-- What GetSign hands back. -/
def gsN (s : ByteArray) (i : Int) : Int := if gsOk s i then (Utf8.decode s i.toNat).1 else -1
def gsE (s : ByteArray) (i : Int) : Int := if gsOk s i then i + (Utf8.decode s i.toNat).2 else -1

/-- How many bytes the first one says that there are, and what it holds. -/
def manyN (b : Nat) : Nat := if b < 128 then 1 else if 192 ≤ b ∧ b ≤ 223 then 2 else if 224 ≤ b ∧ b ≤ 239 then 3 else if 240 ≤ b ∧ b ≤ 247 then 4 else 0
def headN (b : Nat) : Nat := if b < 128 then b else if 192 ≤ b ∧ b ≤ 223 then b % 32 else if 224 ≤ b ∧ b ≤ 239 then b % 16 else if 240 ≤ b ∧ b ≤ 247 then b % 8 else 0
/-- What has been read behind k more bytes. -/
def accN (s : ByteArray) (i : Nat) : Nat → Nat
  | 0 => headN (s.get! i).toNat
  | k + 1 => accN s i k * 64 + (s.get! (i + (k + 1))).toNat % 64
theorem manyN_le (b : Nat) : manyN b ≤ 4 := by unfold manyN; repeat' split
                                               all_goals omega
theorem headN_lt (b : Nat) : headN b < 128 := by unfold headN; repeat' split
                                                 all_goals omega
theorem accN_lt (s : ByteArray) (i : Nat) : ∀ k, k ≤ 3 → accN s i k < 33554432 := by
  have h0 := headN_lt (s.get! i).toNat
  intro k hk
  rcases (show k = 0 ∨ k = 1 ∨ k = 2 ∨ k = 3 by omega) with rfl | rfl | rfl | rfl <;> simp only [accN] <;> omega

set_option maxRecDepth 100000 in
set_option maxHeartbeats 4000000 in
theorem sgn_none (s : ByteArray) (i : Nat) (h : manyN (s.get! i).toNat = 0 ∨ s.size < i + manyN (s.get! i).toNat) : ¬ gsOk s (i : Int) := by
  unfold gsOk
  rintro ⟨_, h2, h3⟩
  apply h3
  rw [Int.toNat_natCast, Lib.decode_at]
  have b0 := (s.get! i).toNat_lt
  revert h
  generalize (s.get! i).toNat = b0 at *
  generalize (s.get! (i + 1)).toNat = b1 at *
  generalize (s.get! (i + 2)).toNat = b2 at *
  generalize (s.get! (i + 3)).toNat = b3 at *
  intro h
  unfold manyN at h
  unfold Lib.decodeN
  repeat' split
  all_goals first | (exact ⟨rfl, by omega⟩) | (exfalso; revert h; repeat' split
                                               all_goals omega)
set_option maxRecDepth 100000 in
set_option maxHeartbeats 4000000 in
theorem sgn_pure (z b0 b1 b2 b3 m : Nat) (hb0 : b0 < 256) (hb1 : b1 < 256) (hb2 : b2 < 256) (hb3 : b3 < 256) (hm : m = manyN b0) (h0 : 0 < m) (hz : m ≤ z) (N : Nat) (L : List Nat)
    (hN : (m = 1 ∧ N = headN b0 ∧ L = [b0]) ∨ (m = 2 ∧ N = headN b0 * 64 + b1 % 64 ∧ L = [b0, b1]) ∨ (m = 3 ∧ N = (headN b0 * 64 + b1 % 64) * 64 + b2 % 64 ∧ L = [b0, b1, b2]) ∨
      (m = 4 ∧ N = ((headN b0 * 64 + b1 % 64) * 64 + b2 % 64) * 64 + b3 % 64 ∧ L = [b0, b1, b2, b3])) :
    (¬ ((Lib.decodeN z b0 b1 b2 b3).1 = 65533 ∧ (Lib.decodeN z b0 b1 b2 b3).2 < 3) ↔ sgN N = L) ∧ (¬ ((Lib.decodeN z b0 b1 b2 b3).1 = 65533 ∧ (Lib.decodeN z b0 b1 b2 b3).2 < 3) → Lib.decodeN z b0 b1 b2 b3 = (N, m)) := by
  have hc : (b0 < 128 ∧ m = 1 ∧ headN b0 = b0) ∨ ((192 ≤ b0 ∧ b0 ≤ 223) ∧ m = 2 ∧ headN b0 = b0 % 32) ∨ ((224 ≤ b0 ∧ b0 ≤ 239) ∧ m = 3 ∧ headN b0 = b0 % 16) ∨ ((240 ≤ b0 ∧ b0 ≤ 247) ∧ m = 4 ∧ headN b0 = b0 % 8) := by
    subst hm
    revert h0
    unfold manyN headN
    repeat' split
    all_goals omega
  clear hm
  rcases hc with ⟨hb, rfl, hh⟩ | ⟨hb, rfl, hh⟩ | ⟨hb, rfl, hh⟩ | ⟨hb, rfl, hh⟩
  · obtain ⟨rfl, rfl⟩ : N = b0 ∧ L = [b0] := by
      rcases hN with ⟨h, h1, h2⟩ | ⟨h, _⟩ | ⟨h, _⟩ | ⟨h, _⟩
      · exact ⟨h1.trans hh, h2⟩
      all_goals omega
    rw [Lib.decodeN, if_pos hb]
    unfold sgN encN
    rw [if_pos (by omega), if_pos hb]
    simp
    omega
  · obtain ⟨hNN, rfl⟩ : N = b0 % 32 * 64 + b1 % 64 ∧ L = [b0, b1] := by
      rcases hN with ⟨h, _⟩ | ⟨h, h1, h2⟩ | ⟨h, _⟩ | ⟨h, _⟩
      · omega
      · exact ⟨by rw [h1, hh], h2⟩
      all_goals omega
    have hNl : N < 2048 := by omega
    unfold sgN encN
    rw [if_pos (by omega)]
    by_cases h1 : b1 / 64 = 2
    · by_cases h2 : 128 ≤ N
      · rw [Lib.decodeN, if_neg (by omega), if_pos (by omega), ← hNN, if_pos h2, if_neg (by omega), if_pos hNl]
        simp
        omega
      · rw [Lib.decodeN, if_neg (by omega), if_pos (by omega), ← hNN, if_neg h2, if_pos (by omega)]
        simp
    · rw [Lib.decodeN, if_neg (by omega), if_neg (by omega), if_neg (by omega), if_neg (by omega)]
      by_cases h2 : 128 ≤ N
      · rw [if_neg (by omega), if_pos hNl]
        simp
        omega
      · rw [if_pos (by omega)]
        simp
  · obtain ⟨hNN, rfl⟩ : N = b0 % 16 * 4096 + b1 % 64 * 64 + b2 % 64 ∧ L = [b0, b1, b2] := by
      rcases hN with ⟨h, _⟩ | ⟨h, _⟩ | ⟨h, h1, h2⟩ | ⟨h, _⟩
      · omega
      · omega
      · exact ⟨by rw [h1, hh]; omega, h2⟩
      · omega
    have hNl : N < 65536 := by omega
    by_cases h1 : b1 / 64 = 2 ∧ b2 / 64 = 2
    · by_cases h2 : 2048 ≤ N ∧ (N < 55296 ∨ (57344 ≤ N ∧ N ≤ 1114111))
      · rw [Lib.decodeN, if_neg (by omega), if_neg (by omega), if_pos (by omega), ← hNN, if_pos h2]
        unfold sgN encN
        rw [if_pos (by omega), if_neg (by omega), if_neg (by omega), if_pos hNl]
        simp
        omega
      · rw [Lib.decodeN, if_neg (by omega), if_neg (by omega), if_pos (by omega), ← hNN, if_neg h2]
        unfold sgN encN
        by_cases h3 : N < 55296 ∨ (57343 < N ∧ N < 1114112)
        · rw [if_pos h3]
          by_cases h4 : N < 128
          · rw [if_pos h4]; simp
          · rw [if_neg h4, if_pos (by omega)]; simp
        · rw [if_neg h3]; simp
    · rw [Lib.decodeN, if_neg (by omega), if_neg (by omega), if_neg (by omega), if_neg (by omega)]
      unfold sgN encN
      by_cases h3 : N < 55296 ∨ (57343 < N ∧ N < 1114112)
      · rw [if_pos h3]
        by_cases h4 : N < 128
        · rw [if_pos h4]; simp
        · rw [if_neg h4]
          by_cases h5 : N < 2048
          · rw [if_pos h5]; simp
          · rw [if_neg h5, if_pos hNl]; simp; omega
      · rw [if_neg h3]; simp
  · obtain ⟨hNN, rfl⟩ : N = b0 % 8 * 262144 + b1 % 64 * 4096 + b2 % 64 * 64 + b3 % 64 ∧ L = [b0, b1, b2, b3] := by
      rcases hN with ⟨h, _⟩ | ⟨h, _⟩ | ⟨h, _⟩ | ⟨h, h1, h2⟩
      · omega
      · omega
      · omega
      · exact ⟨by rw [h1, hh]; omega, h2⟩
    by_cases h1 : b1 / 64 = 2 ∧ b2 / 64 = 2 ∧ b3 / 64 = 2
    · by_cases h2 : 65536 ≤ N ∧ (N < 55296 ∨ (57344 ≤ N ∧ N ≤ 1114111))
      · rw [Lib.decodeN, if_neg (by omega), if_neg (by omega), if_neg (by omega), if_pos (by omega), ← hNN, if_pos h2]
        unfold sgN encN
        rw [if_pos (by omega), if_neg (by omega), if_neg (by omega), if_neg (by omega)]
        simp
        omega
      · rw [Lib.decodeN, if_neg (by omega), if_neg (by omega), if_neg (by omega), if_pos (by omega), ← hNN, if_neg h2]
        unfold sgN encN
        by_cases h3 : N < 55296 ∨ (57343 < N ∧ N < 1114112)
        · rw [if_pos h3]
          by_cases h4 : N < 128
          · rw [if_pos h4]; simp
          · rw [if_neg h4]
            by_cases h5 : N < 2048
            · rw [if_pos h5]; simp
            · rw [if_neg h5, if_pos (by omega)]; simp
        · rw [if_neg h3]; simp
    · rw [Lib.decodeN, if_neg (by omega), if_neg (by omega), if_neg (by omega), if_neg (by omega)]
      unfold sgN encN
      by_cases h3 : N < 55296 ∨ (57343 < N ∧ N < 1114112)
      · rw [if_pos h3]
        by_cases h4 : N < 128
        · rw [if_pos h4]; simp
        · rw [if_neg h4]
          by_cases h5 : N < 2048
          · rw [if_pos h5]; simp
          · rw [if_neg h5]
            by_cases h6 : N < 65536
            · rw [if_pos h6]; simp
            · rw [if_neg h6]; simp; omega
      · rw [if_neg h3]; simp
theorem sgn_some (s : ByteArray) (i m : Nat) (hm : m = manyN (s.get! i).toNat) (h0 : 0 < m) (hle : i + m ≤ s.size) :
    (gsOk s (i : Int) ↔ sgN (accN s i (m - 1)) = pcN s i m) ∧ (gsOk s (i : Int) → Utf8.decode s i = (accN s i (m - 1), m)) := by
  have hi : (0 : Int) ≤ i ∧ (i : Int) < s.size := by omega
  unfold gsOk
  rw [Int.toNat_natCast, Lib.decode_at]
  simp only [hi, true_and]
  have h4 := manyN_le (s.get! i).toNat
  refine sgn_pure (s.size - i) _ _ _ _ m ((s.get! i).toNat_lt) ((s.get! _).toNat_lt) ((s.get! _).toNat_lt) ((s.get! _).toNat_lt) hm h0 (by omega) _ _ ?_
  rcases (show m = 1 ∨ m = 2 ∨ m = 3 ∨ m = 4 by omega) with rfl | rfl | rfl | rfl
  · exact .inl ⟨rfl, rfl, by simp [pcN, List.range_succ]⟩
  · exact .inr (.inl ⟨rfl, rfl, by simp [pcN, List.range_succ]⟩)
  · exact .inr (.inr (.inl ⟨rfl, rfl, by simp [pcN, List.range_succ]⟩))
  · exact .inr (.inr (.inr ⟨rfl, rfl, by simp [pcN, List.range_succ]⟩))
end Go.Proofs.YtbfddabljkoapaaGreatDoor

/-
  The signs of a text, plainly: one by one from a place on; a text that is right.
-/
namespace Go.Proofs.YtbfddabljkoapaaGreatDoor
open Go.RowKit
set_option linter.unusedVariables false

/-- The signs from a place on, none where there is a wrong one. -/
def restG (s : ByteArray) : Nat → Nat → Option (List Nat)
  | 0, _ => some []
  | f + 1, i => if i < s.size then (if gsOk s (i : Int) then (restG s f (i + (Utf8.decode s i).2)).map ((Utf8.decode s i).1 :: ·) else none) else some []
def restF (s : ByteArray) (i : Nat) : Option (List Nat) := restG s (s.size - i) i
theorem dec_pos (s : ByteArray) (i : Nat) : 1 ≤ (Utf8.decode s i).2 := Lib.width_pos s i
theorem restG_fuel (s : ByteArray) : ∀ f g i, s.size - i ≤ f → s.size - i ≤ g → restG s f i = restG s g i
  | 0, 0, _, _, _ => rfl
  | 0, g + 1, i, h, _ => by rw [restG, restG, if_neg (by omega)]
  | f + 1, 0, i, _, h => by rw [restG, restG, if_neg (by omega)]
  | f + 1, g + 1, i, h1, h2 => by
    rw [restG, restG]
    by_cases hi : i < s.size
    · have := dec_pos s i
      rw [if_pos hi, if_pos hi, restG_fuel s f g _ (by omega) (by omega)]
    · rw [if_neg hi, if_neg hi]
theorem restF_end (s : ByteArray) (i : Nat) (h : s.size ≤ i) : restF s i = some [] := by
  unfold restF
  rw [show s.size - i = 0 by omega]
  rfl
theorem restF_ok (s : ByteArray) (i : Nat) (h : i < s.size) (hok : gsOk s (i : Int)) : restF s i = (restF s (i + (Utf8.decode s i).2)).map ((Utf8.decode s i).1 :: ·) := by
  have := dec_pos s i
  unfold restF
  obtain ⟨f, hf⟩ : ∃ f, s.size - i = f + 1 := ⟨s.size - i - 1, by omega⟩
  rw [hf, restG, if_pos h, if_pos hok, restG_fuel s f _ _ (by omega) (Nat.le_refl _)]
theorem restF_bad (s : ByteArray) (i : Nat) (h : i < s.size) (hok : ¬ gsOk s (i : Int)) : restF s i = none := by
  unfold restF
  obtain ⟨f, hf⟩ : ∃ f, s.size - i = f + 1 := ⟨s.size - i - 1, by omega⟩
  rw [hf, restG, if_pos h, if_neg hok]
/-- A text is right. -/
def textOk (s : ByteArray) : Bool := (restF s 0).isSome
/-- The signs of a text, none if it isn't right. -/
def signsL (s : ByteArray) : List Nat := (restF s 0).getD []

theorem dec_65533 (s : ByteArray) (i : Nat) : ((Utf8.decode s i).1 = 65533 ∧ (Utf8.decode s i).2 < 3) ↔ ((Utf8.decode s i).1 = 65533 ∧ (Utf8.decode s i).2 = 1) := by
  rw [Lib.decode_at]
  have h0 := (s.get! i).toNat_lt
  have h1 := (s.get! (i + 1)).toNat_lt
  generalize (s.get! i).toNat = b0 at *
  generalize (s.get! (i + 1)).toNat = b1 at *
  unfold Lib.decodeN
  repeat' split
  all_goals simp
  all_goals omega
theorem gsOk_nat (s : ByteArray) (i : Nat) (h : i < s.size) : gsOk s (i : Int) ↔ ¬ ((Utf8.decode s i).1 = 65533 ∧ (Utf8.decode s i).2 = 1) := by
  unfold gsOk
  rw [Int.toNat_natCast, ← dec_65533]
  constructor
  · exact fun h => h.2.2
  · exact fun h => ⟨by omega, by omega, h⟩
theorem valid_rest (s : ByteArray) : ∀ n i, s.size - i ≤ n → Lib.validD (s.data.toList.drop i) = (restF s i).isSome := by
  have hl : s.data.toList.length = s.size := rfl
  intro n
  induction n with
  | zero =>
    intro i h
    rw [restF_end s i (by omega), List.drop_eq_nil_of_le (by omega)]
    rfl
  | succ n ih =>
    intro i h
    by_cases hi : i < s.size
    · have hne : s.data.toList.drop i ≠ [] := by
        intro h
        have := congrArg List.length h
        simp at this
        have e : s.data.size = s.size := rfl
        omega
      have hp := dec_pos s i
      rw [Lib.validD_step _ hne, Lib.decodeL_drop, List.drop_drop]
      by_cases hok : gsOk s (i : Int)
      · rw [if_neg ((gsOk_nat s i hi).1 hok), restF_ok s i hi hok, ih _ (by omega)]
        simp
      · rw [if_pos (by
          have := hok
          rw [gsOk_nat s i hi] at this
          exact Classical.not_not.1 this), restF_bad s i hi hok]
        rfl
    · rw [restF_end s i (by omega), List.drop_eq_nil_of_le (by omega)]
      rfl
theorem valid_textOk (s : ByteArray) : Lib.validD s.data.toList = textOk s := by
  have := valid_rest s _ 0 (Nat.le_refl _)
  simpa [textOk] using this
theorem textOk_signs (s : ByteArray) : textOk s = (decide (s.size = 0) || decide (0 < (signsL s).length)) := by
  unfold textOk signsL
  by_cases h0 : s.size = 0
  · rw [restF_end s 0 (by omega)]; simp [h0]
  · by_cases hok : gsOk s ((0 : Nat) : Int)
    · rw [restF_ok s 0 (by omega) hok]
      cases restF s (0 + (Utf8.decode s 0).2) <;> simp [h0]
    · rw [restF_bad s 0 (by omega) hok]; simp [h0]

/-- What has been read ahead of a place. -/
def ReadTo (s : ByteArray) (i : Nat) (pre : List Nat) : Prop := i ≤ s.size ∧ pre.length ≤ i ∧ restF s 0 = (restF s i).map (pre ++ ·)
theorem readTo_zero (s : ByteArray) : ReadTo s 0 [] := ⟨Nat.zero_le _, Nat.le_refl _, by cases restF s 0 <;> simp⟩
theorem dec_le (s : ByteArray) (i : Nat) (h : i < s.size) : i + (Utf8.decode s i).2 ≤ s.size := by
  rw [Lib.decode_at]
  unfold Lib.decodeN
  repeat' split
  all_goals simp
  all_goals omega
theorem readTo_next {s : ByteArray} {i : Nat} {pre : List Nat} (h : ReadTo s i pre) (hi : i < s.size) (hok : gsOk s (i : Int)) : ReadTo s (i + (Utf8.decode s i).2) (pre ++ [(Utf8.decode s i).1]) := by
  have hp := dec_pos s i
  refine ⟨dec_le s i hi, by have := h.2.1; simp; omega, ?_⟩
  rw [h.2.2, restF_ok s i hi hok]
  cases restF s (i + (Utf8.decode s i).2) <;> simp
theorem readTo_bad {s : ByteArray} {i : Nat} {pre : List Nat} (h : ReadTo s i pre) (hi : i < s.size) (hok : ¬ gsOk s (i : Int)) : signsL s = [] ∧ textOk s = false := by
  unfold signsL textOk
  rw [h.2.2, restF_bad s i hi hok]
  exact ⟨rfl, rfl⟩
theorem readTo_end {s : ByteArray} {i : Nat} {pre : List Nat} (h : ReadTo s i pre) (hi : ¬ i < s.size) : signsL s = pre ∧ textOk s = true := by
  unfold signsL textOk
  rw [h.2.2, restF_end s i (by omega)]
  simp
theorem signsL_len (s : ByteArray) : (signsL s).length ≤ s.size := by
  have : ∀ f i l, restG s f i = some l → l.length ≤ f := by
    intro f
    induction f with
    | zero => intro i l h; simp [restG] at h; subst h; simp
    | succ f ih =>
      intro i l h
      rw [restG] at h
      split at h
      · split at h
        · cases hr : restG s f (i + (Utf8.decode s i).2) with
          | none => rw [hr] at h; simp at h
          | some l' =>
            rw [hr] at h
            simp at h
            subst h
            have := ih _ _ hr
            simp; omega
        · cases h
      · simp at h; subst h; simp
  unfold signsL
  cases h : restF s 0 with
  | none => simp
  | some l => have := this _ _ _ h; simpa using this
end Go.Proofs.YtbfddabljkoapaaGreatDoor

/-
  Numbers of 64 bits.
-/
namespace Go.Proofs.YtbfddabljkoapaaGreatDoor
open Go.RowKit

/-- A number as a value of 64 bits. -/
def i64of (n : Nat) : Int := wrap64 (n : Int)
theorem wrap64_eq (n : Int) : wrap64 n = (n + 9223372036854775808) % 18446744073709551616 - 9223372036854775808 := by unfold wrap64; rfl
theorem i64of_zero : i64of 0 = 0 := by unfold i64of; rw [wrap64_eq]; rfl
theorem i64of_small (n : Nat) (h : n < 9223372036854775808) : i64of n = (n : Int) := by unfold i64of; rw [wrap64_eq]; omega
theorem i64of_succ (n : Nat) : wrap64 (i64of n + 1) = i64of (n + 1) := by unfold i64of; rw [wrap64_eq, wrap64_eq, wrap64_eq]; omega
end Go.Proofs.YtbfddabljkoapaaGreatDoor

/-
  A right value, plainly.
-/
namespace Go.Proofs.YtbfddabljkoapaaGreatDoor
open Go.RowKit
set_option linter.unusedVariables false

/-- A number of 64 bits. -/
def inR (n : Int) : Prop := -9223372036854775808 ≤ n ∧ n ≤ 9223372036854775807
instance (n : Int) : Decidable (inR n) := by unfold inR; infer_instance
/-- A number ten times, so often, as long as it is one of 64 bits. -/
def tens : Int → Nat → Option Int
  | n, 0 => some n
  | n, k + 1 => if inR (n * 10) then tens (n * 10) k else none
theorem tens_zero : ∀ k, tens 0 k = some 0
  | 0 => rfl
  | k + 1 => by unfold tens; rw [Int.zero_mul, if_pos (by unfold inR; omega)]; exact tens_zero k
/-- A right decimal number. -/
def decOk (n e : Int) : Prop := -20 ≤ e ∧ e ≤ 20 ∧ e ≠ 0 ∧ -999999999999999999 ≤ n ∧ n ≤ 999999999999999999 ∧ Int.tmod n 10 ≠ 0 ∧ (0 < e → tens n e.toNat = none)
instance (n e : Int) : Decidable (decOk n e) := by unfold decOk; infer_instance
/-- Two keys are one, by what the reference compares. -/
def keyEq (a b : V) : Prop := a.k = b.k ∧ a.n = b.n ∧ a.s = b.s
instance (a b : V) : Decidable (keyEq a b) := by unfold keyEq; infer_instance
def isKeyB (v : V) : Bool := decide (v.k = 5 ∨ v.k = 3)
/-- Keys at even places, no two of them one. -/
def pairsTo (R : V → V → Prop) (l : List V) (m : Nat) : Prop := ∀ i (h : i < l.length), i < m → i % 2 = 0 → isKeyB l[i] = true ∧ ∀ k (hk : k < i), k % 2 = 0 → ¬ R (l[k]'(by omega)) l[i]
def pairsOk (l : List V) : Prop := pairsTo keyEq l l.length ∧ l.length % 2 = 0 ∧ l.length ≤ 300
/-- What a value is but for its kids. -/
def nodeOk (v : V) : Prop :=
  if v.k = 0 ∨ v.k = 1 ∨ v.k = 2 ∨ v.k = 7 ∨ v.k = 8 then v.n = 0 ∧ v.e = 0 ∧ v.s.size = 0
  else if v.k = 3 then v.e = 0 ∧ v.s.size = 0
  else if v.k = 4 then decOk v.n v.e ∧ v.s.size = 0
  else if v.k = 5 then v.n = 0 ∧ v.e = 0 ∧ textOk v.s = true ∧ v.s.size ≤ 2000
  else if v.k = 6 then v.n = 0 ∧ v.e = 0 ∧ v.s.size ≤ 2000
  else if v.k = 9 then 0 ≤ v.n ∧ v.n ≤ 1000000 ∧ v.e = 0 ∧ v.s.size = 0
  else False
/-- Its kids, one by one apart. -/
def kidsOk (v : V) : Prop := if v.k = 7 then True else if v.k = 9 then v.kids.length = 1 else if v.k = 8 then pairsOk v.kids else v.kids.length = 0
def ownOk (v : V) : Prop := nodeOk v ∧ kidsOk v
noncomputable instance (p : Prop) : Decidable p := Classical.propDecidable p
mutual
/-- A value is right, at most so many kids deep. -/
def V.right : Int → V → Prop
  | d, .mk k n e s ks => 0 ≤ d ∧ ownOk (.mk k n e s ks) ∧ Vs.right (d - 1) ks
def Vs.right : Int → List V → Prop
  | _, [] => True
  | d, v :: r => V.right d v ∧ Vs.right d r
end
theorem V.right_eq (d : Int) (v : V) : V.right d v ↔ 0 ≤ d ∧ ownOk v ∧ Vs.right (d - 1) v.kids := by cases v; simp [V.right, V.kids]
theorem Vs.right_iff (d : Int) : ∀ l : List V, Vs.right d l ↔ ∀ i (h : i < l.length), V.right d l[i]
  | [] => by simp [Vs.right]
  | v :: r => by
    simp only [Vs.right]
    rw [Vs.right_iff d r]
    constructor
    · rintro ⟨h1, h2⟩ i hi
      cases i with
      | zero => exact h1
      | succ i => exact h2 i (by simpa using hi)
    · intro h
      exact ⟨h 0 (by simp), fun i hi => h (i + 1) (by simpa using hi)⟩
theorem Vs.right_take (d : Int) (l : List V) (h : Vs.right d (l.take l.length)) : Vs.right d l := by rwa [List.take_length] at h
theorem Vs.right_step (d : Int) (l : List V) (j : Nat) (hj : j < l.length) (h : Vs.right d (l.take j)) (hv : V.right d l[j]) : Vs.right d (l.take (j + 1)) := by
  rw [Vs.right_iff] at h ⊢
  intro i hi
  rw [List.length_take] at hi
  by_cases e : i = j
  · subst e; simpa using hv
  · have := h i (by rw [List.length_take]; omega)
    simpa using this
/-- ValueOk. -/
def okV (v : V) : Prop := V.right 12 v ∧ v.nodes ≤ 300

theorem wrap_ten {n : Int} (hn : inR n) : (Int.tdiv (wrap64 (n * 10)) 10 = n) ↔ inR (n * 10) := by
  unfold inR at *
  have hw := wrap64_eq (n * 10)
  constructor
  · intro h
    have h2 := Int.tmod_add_mul_tdiv (wrap64 (n * 10)) 10
    have h3 : -10 < Int.tmod (wrap64 (n * 10)) 10 ∧ Int.tmod (wrap64 (n * 10)) 10 < 10 := by
      constructor
      · have := Int.lt_tmod_of_pos (wrap64 (n * 10)) (show (0 : Int) < 10 by omega); omega
      · exact Int.tmod_lt_of_pos _ (by omega)
    rw [h] at h2
    omega
  · intro h
    rw [show wrap64 (n * 10) = n * 10 by omega, Int.mul_tdiv_cancel _ (by omega)]
end Go.Proofs.YtbfddabljkoapaaGreatDoor

/-
  Norm, plainly.
-/
namespace Go.Proofs.YtbfddabljkoapaaGreatDoor
open Go.RowKit
set_option linter.unusedVariables false
set_option linter.unusedSimpArgs false

theorem pow_big {n : Int} {k : Nat} (hn : n ≠ 0) (h : inR (n * 10 ^ k)) : k ≤ 18 := by
  by_cases hk : k ≤ 18
  · exact hk
  · exfalso
    have h1 : (10 : Nat) ^ 19 ≤ 10 ^ k := Nat.pow_le_pow_right (by omega) (by omega)
    have h2 : (n * 10 ^ k).natAbs = n.natAbs * 10 ^ k := by rw [Int.natAbs_mul, Int.natAbs_pow]; rfl
    have h3 : 1 ≤ n.natAbs := by omega
    have h4 : 10 ^ k ≤ n.natAbs * 10 ^ k := Nat.le_mul_of_pos_left _ h3
    have h5 : (10 : Nat) ^ 19 = 10000000000000000000 := by decide
    unfold inR at h
    omega
theorem pow_pos_int (k : Nat) : (1 : Int) ≤ 10 ^ k := by
  have h : (0 : Int) < 10 ^ k := Int.pow_pos (by omega)
  omega
/-- What a number of 64 bits is a multiple of is one of 64 bits. -/
theorem inR_of_mul {n : Int} {k : Nat} (h : inR (n * 10 ^ k)) : inR n := by
  have h1 := pow_pos_int k
  unfold inR at *
  rcases Int.le_total 0 n with hn | hn
  · have := Int.mul_nonneg hn (show (0 : Int) ≤ 10 ^ k - 1 by omega)
    rw [Int.mul_sub] at this
    omega
  · have := Int.mul_nonneg (show (0 : Int) ≤ -n by omega) (show (0 : Int) ≤ 10 ^ k - 1 by omega)
    rw [Int.mul_sub, Int.neg_mul] at this
    omega
theorem tens_mul : ∀ (k : Nat) (n : Int), inR n → tens n k = if inR (n * 10 ^ k) then some (n * 10 ^ k) else none
  | 0, n, h => by rw [Int.pow_zero, Int.mul_one, if_pos h]; rfl
  | k + 1, n, h => by
    have e : n * 10 ^ (k + 1) = n * 10 * 10 ^ k := by rw [Int.pow_succ, Int.mul_comm (10 ^ k) 10, Int.mul_assoc]
    rw [e]
    unfold tens
    by_cases h1 : inR (n * 10)
    · rw [if_pos h1, tens_mul k _ h1]
    · rw [if_neg h1, if_neg (fun h2 => h1 (inR_of_mul h2))]
/-- A number without the noughts at its end, and its power. -/
def strip : Nat → Int → Int → Int × Int
  | 0, n, e => (n, e)
  | f + 1, n, e => if Int.tmod n 10 = 0 then strip f (Int.tdiv n 10) (e + 1) else (n, e)
theorem strip_of : ∀ (k f : Nat) (n n' e : Int), Int.tmod n' 10 ≠ 0 → n = n' * 10 ^ k → k ≤ f → strip f n e = (n', e + k)
  | 0, 0, n, n', e, h, hn, _ => by rw [hn, Int.pow_zero, Int.mul_one]; simp [strip]
  | 0, f + 1, n, n', e, h, hn, _ => by
    rw [hn, Int.pow_zero, Int.mul_one]
    unfold strip
    rw [if_neg h]
    simp
  | k + 1, 0, n, n', e, h, hn, hf => by omega
  | k + 1, f + 1, n, n', e, h, hn, hf => by
    have e1 : n = n' * 10 ^ k * 10 := by rw [hn, Int.pow_succ, Int.mul_assoc]
    unfold strip
    rw [if_pos (by rw [e1, Int.mul_tmod_left]), strip_of k f _ n' (e + 1) h (by rw [e1, Int.mul_tdiv_cancel _ (by omega)]) (by omega)]
    congr 1
    omega
theorem strip_ex : ∀ (N : Nat) (n : Int), n.natAbs ≤ N → n ≠ 0 → ∃ (n' : Int) (k : Nat), n = n' * 10 ^ k ∧ Int.tmod n' 10 ≠ 0
  | 0, n, h, h0 => by omega
  | N + 1, n, h, h0 => by
    by_cases hm : Int.tmod n 10 = 0
    · have e : Int.tdiv n 10 * 10 = n := by have := Int.tmod_add_mul_tdiv n 10; omega
      obtain ⟨n', k, h1, h2⟩ := strip_ex N (Int.tdiv n 10) (by omega) (by omega)
      exact ⟨n', k + 1, by rw [Int.pow_succ, ← Int.mul_assoc, ← h1, e], h2⟩
    · exact ⟨n, 0, by rw [Int.pow_zero, Int.mul_one], hm⟩
theorem tmod_ne {n : Int} (h : Int.tmod n 10 ≠ 0) : n ≠ 0 := by rintro rfl; exact h rfl
def V.nought : V := .mk 0 0 0 ⟨#[]⟩ []
def V.int (n : Int) : V := .mk 3 n 0 ⟨#[]⟩ []
def V.dec (n e : Int) : V := .mk 4 n e ⟨#[]⟩ []
/-- A number without noughts at its end, and its power, as a value. -/
def normV (n e : Int) : Option V := if 0 ≤ e ∧ inR (n * 10 ^ e.toNat) then some (V.int (n * 10 ^ e.toNat)) else if decOk n e then some (V.dec n e) else none
/-- Norm. -/
def normR (n e : Int) : Option V := if -1000 ≤ e ∧ e ≤ 1000 then (if n = 0 then some (V.int 0) else normV (strip 18 n e).1 (strip 18 n e).2) else none
theorem normR_out {n e : Int} (h : ¬ (-1000 ≤ e ∧ e ≤ 1000)) : normR n e = none := by unfold normR; rw [if_neg h]
theorem normR_zero {e : Int} (h : -1000 ≤ e ∧ e ≤ 1000) : normR 0 e = some (V.int 0) := by unfold normR; rw [if_pos h, if_pos rfl]
theorem normR_of {n e n' : Int} {k : Nat} (he : -1000 ≤ e ∧ e ≤ 1000) (hr : inR n) (h : Int.tmod n' 10 ≠ 0) (hn : n = n' * 10 ^ k) : normR n e = normV n' (e + k) := by
  have h0 := tmod_ne h
  have hk : k ≤ 18 := pow_big h0 (by rw [← hn]; exact hr)
  have hne : n ≠ 0 := by
    rw [hn]
    have := pow_pos_int k
    exact Int.mul_ne_zero h0 (by omega)
  unfold normR
  rw [if_pos he, if_neg hne, strip_of k 18 n n' e h hn hk]
/-- The power has come to 0. -/
theorem normR_whole {n e n1 : Int} {k : Nat} (he : -1000 ≤ e ∧ e ≤ 1000) (hr : inR n) (h0 : n1 ≠ 0) (hn : n = n1 * 10 ^ k) (hk : e + k = 0) : normR n e = some (V.int n1) := by
  obtain ⟨n', m, h1, h2⟩ := strip_ex n1.natAbs n1 (Nat.le_refl _) h0
  have hn2 : n = n' * 10 ^ (m + k) := by rw [hn, h1, Int.pow_add, Int.mul_assoc]
  have hr1 : inR n1 := inR_of_mul (k := k) (by rw [← hn]; exact hr)
  rw [normR_of he hr h2 hn2]
  have e1 : e + ((m + k : Nat) : Int) = m := by omega
  rw [e1]
  unfold normV
  rw [Int.toNat_natCast, ← h1, if_pos ⟨by omega, hr1⟩]
theorem normV_pos_some {n e : Int} (h : 0 ≤ e) (hr : inR (n * 10 ^ e.toNat)) : normV n e = some (V.int (n * 10 ^ e.toNat)) := by unfold normV; rw [if_pos ⟨h, hr⟩]
theorem normV_dec {n e : Int} (h : ¬ (0 ≤ e ∧ inR (n * 10 ^ e.toNat))) (hd : decOk n e) : normV n e = some (V.dec n e) := by unfold normV; rw [if_neg h, if_pos hd]
theorem normV_none {n e : Int} (h : ¬ (0 ≤ e ∧ inR (n * 10 ^ e.toNat))) (hd : ¬ decOk n e) : normV n e = none := by unfold normV; rw [if_neg h, if_neg hd]
def normD (n e : Int) : V := (normR n e).getD V.nought
def normB (n e : Int) : Bool := (normR n e).isSome
/-- What Norm hands back. -/
def NormRet (n e : Int) (w : World) (r : Ending) (w' : World) : Prop := r = .returned (.tuple #[(normD n e).agg none 0, .bool (normB n e)]) ∧ Below w.heap.size w w'
theorem normRet_some {n e : Int} {v : V} {w w' : World} {u : Value} (h : normR n e = some v) (hu : u = .tuple #[v.agg none 0, .bool true]) (hb : Below w.heap.size w w') : NormRet n e w (.returned u) w' := by
  unfold NormRet normD normB
  rw [h, hu]
  exact ⟨rfl, hb⟩
theorem normRet_none {n e : Int} {w w' : World} {u : Value} (h : normR n e = none) (hu : u = .tuple #[V.nought.agg none 0, .bool false]) (hb : Below w.heap.size w w') : NormRet n e w (.returned u) w' := by
  unfold NormRet normD normB
  rw [h, hu]
  exact ⟨rfl, hb⟩
/-- A right decimal number is a right value. -/
theorem okV_dec (n e : Int) : okV (V.dec n e) ↔ decOk n e := by
  unfold okV V.dec
  rw [V.right_eq]
  simp [ownOk, nodeOk, kidsOk, V.k, V.n, V.e, V.s, V.kids, V.nodes, Vs.nodes, Vs.right]
  intro _; decide
theorem okV_int (n : Int) : okV (V.int n) := by
  unfold okV V.int
  rw [V.right_eq]
  simp [ownOk, nodeOk, kidsOk, V.k, V.n, V.e, V.s, V.kids, V.nodes, Vs.nodes, Vs.right]
  try decide
end Go.Proofs.YtbfddabljkoapaaGreatDoor

/-
  Right numbers, and the greatest whole number that isn't above one, plainly.
-/
namespace Go.Proofs.YtbfddabljkoapaaGreatDoor
open Go.RowKit
set_option linter.unusedVariables false
set_option linter.unusedSimpArgs false

/-- A right number. -/
def numOk (v : V) : Prop := (v.k = 3 ∨ v.k = 4) ∧ okV v
theorem okV_leaf {v : V} (h : numOk v) : v.kids.length = 0 ∧ v.s.size = 0 ∧ (v.k = 3 → v.e = 0) ∧ (v.k = 4 → decOk v.n v.e) := by
  obtain ⟨hk, h1, _⟩ := h
  obtain ⟨_, ⟨h2, h3⟩, _⟩ := (V.right_eq _ _).1 h1
  unfold nodeOk at h2
  unfold kidsOk at h3
  rcases hk with hk | hk <;> simp [hk] at h2 h3
  · exact ⟨by rw [h3]; rfl, by rw [h2.2]; rfl, fun _ => h2.1, fun h => by omega⟩
  · exact ⟨by rw [h3]; rfl, by rw [h2.2]; rfl, fun h => by omega, fun _ => h2.1⟩
theorem ten_div (x : Int) (j : Nat) : x / 10 ^ j / 10 = x / 10 ^ (j + 1) := by
  rw [Int.ediv_ediv_of_nonneg (Int.le_of_lt (Int.pow_pos (by omega))), Int.pow_succ]
theorem floor_ten (x : Int) : (Int.tmod x 10 < 0 → Int.tdiv x 10 - 1 = x / 10) ∧ (¬ Int.tmod x 10 < 0 → Int.tdiv x 10 = x / 10) := by
  have h1 := Int.tmod_add_mul_tdiv x 10
  have h3 : -10 < Int.tmod x 10 ∧ Int.tmod x 10 < 10 := by
    constructor
    · have := Int.lt_tmod_of_pos x (show (0 : Int) < 10 by omega); omega
    · exact Int.tmod_lt_of_pos _ (by omega)
  omega
theorem tdiv_sign (x : Int) : Int.tdiv x 10 = if 0 ≤ x then x / 10 else -((-x) / 10) := by
  split
  · rename_i h; exact Int.tdiv_eq_ediv_of_nonneg h
  · rename_i h
    have e : x = -(-x) := by omega
    conv => lhs; rw [e]
    rw [Int.neg_tdiv, Int.tdiv_eq_ediv_of_nonneg (by omega)]
/-- What is left behind j steps of cutting off a digit. -/
def cutD (n : Int) (j : Nat) : Int := if 0 ≤ n then n / 10 ^ j else -((-n) / 10 ^ j)
theorem cutD_step (n : Int) (j : Nat) : Int.tdiv (cutD n j) 10 = cutD n (j + 1) := by
  rw [tdiv_sign]
  unfold cutD
  have hp : (0 : Int) ≤ 10 ^ j := Int.le_of_lt (Int.pow_pos (by omega))
  by_cases h : 0 ≤ n
  · have h1 : 0 ≤ n / 10 ^ j := Int.ediv_nonneg h hp
    simp only [if_pos h, if_pos h1, ten_div]
  · have h1 : 0 ≤ (-n) / 10 ^ j := Int.ediv_nonneg (by omega) hp
    simp only [if_neg h]
    by_cases h2 : 0 ≤ -(-n / 10 ^ j)
    · have h3 : -n / 10 ^ j = 0 := by omega
      rw [if_pos h2, ← ten_div, h3]; rfl
    · rw [if_neg h2, Int.neg_neg, ten_div]
theorem floor_neg {a D : Int} (hD : 0 < D) (h : a % D ≠ 0) : (-a) / D = -(a / D) - 1 := by
  have h1 := Int.emod_add_mul_ediv a D
  have h2 := Int.emod_nonneg a (by omega : D ≠ 0)
  have h3 := Int.emod_lt_of_pos a hD
  refine ((Int.ediv_emod_unique (r := D - a % D) hD).2 ⟨?_, by omega, by omega⟩).1
  rw [Int.mul_sub, Int.mul_neg]
  omega
theorem dec_floor {n : Int} {k : Nat} (hk : 1 ≤ k) (hm : Int.tmod n 10 ≠ 0) : (if n < 0 then cutD n k - 1 else cutD n k) = n / 10 ^ k := by
  have hp : (0 : Int) < 10 ^ k := Int.pow_pos (by omega)
  unfold cutD
  by_cases h : n < 0
  · rw [if_pos h, if_neg (by omega)]
    have hd : (-n) % 10 ^ k ≠ 0 := fun hz => by
      have h1 : (10 : Int) ∣ 10 ^ k := ⟨10 ^ (k - 1), by
        obtain ⟨m, rfl⟩ : ∃ m, k = m + 1 := ⟨k - 1, by omega⟩
        rw [Int.pow_succ, Int.mul_comm, Nat.add_sub_cancel]⟩
      have h2 := Int.emod_emod_of_dvd (-n) h1
      rw [hz] at h2
      have h3 := Int.tmod_add_mul_tdiv n 10
      apply hm
      have h4 : -10 < Int.tmod n 10 ∧ Int.tmod n 10 < 10 := by
        constructor
        · have := Int.lt_tmod_of_pos n (show (0 : Int) < 10 by omega); omega
        · exact Int.tmod_lt_of_pos _ (by omega)
      omega
    have h5 := floor_neg hp hd
    rw [Int.neg_neg] at h5
    exact h5.symm
  · rw [if_neg h, if_pos (by omega)]
/-- Whole. -/
noncomputable def wholeB (v : V) : Bool := decide (numOk v ∧ ¬ 0 < v.e)
noncomputable def wholeN (v : V) : Int := if numOk v ∧ ¬ 0 < v.e then v.n / 10 ^ (-v.e).toNat else 0
theorem whole_no {v : V} (h : ¬ (numOk v ∧ ¬ 0 < v.e)) : wholeB v = false ∧ wholeN v = 0 := ⟨decide_eq_false h, if_neg h⟩
theorem whole_yes {v : V} (h : numOk v ∧ ¬ 0 < v.e) : wholeB v = true ∧ wholeN v = v.n / 10 ^ (-v.e).toNat := ⟨decide_eq_true h, if_pos h⟩
end Go.Proofs.YtbfddabljkoapaaGreatDoor

/-
  DecText and ReadDec, plainly: a number's digits.
-/
namespace Go.Proofs.YtbfddabljkoapaaGreatDoor
open Go.RowKit
set_option linter.unusedVariables false

/-- The digits of a number, none for 0. -/
def dd (q : Nat) : List UInt8 := if q = 0 then [] else Lib.decDigits q
theorem dd_step (q : Nat) (h : q ≠ 0) : dd (q / 10) ++ [UInt8.ofNat (48 + q % 10)] = dd q := by
  unfold dd
  rw [if_neg h]
  by_cases h1 : q < 10
  · rw [if_pos (by omega), Lib.decDigits, dif_pos h1, show q % 10 = q by omega]; rfl
  · rw [if_neg (by omega)]
    conv => rhs; rw [Lib.decDigits, dif_neg h1]
theorem dd_pos (q : Nat) (h : q ≠ 0) : dd q = Lib.decDigits q := by unfold dd; rw [if_neg h]
theorem itoa_pos (n : Nat) : Lib.itoa (n : Int) = Lib.decDigits n := by
  unfold Lib.itoa
  rw [if_neg (by omega), Int.toNat_natCast]
theorem itoa_neg (n : Nat) (h : 0 < n) : Lib.itoa (-(n : Int)) = 45 :: Lib.decDigits n := by
  unfold Lib.itoa
  rw [if_pos (by omega), Int.natAbs_neg, Int.natAbs_natCast]
theorem dig_one : ∀ d : Fin 10, (⟨#[48, 49, 50, 51, 52, 53, 54, 55, 56, 57]⟩ : ByteArray).extract d.val (d.val + 1) = str [UInt8.ofNat (48 + d.val)] := by decide +kernel
theorem dig_at (d : Nat) (h : d < 10) : (⟨#[48, 49, 50, 51, 52, 53, 54, 55, 56, 57]⟩ : ByteArray).extract d (d + 1) = str [UInt8.ofNat (48 + d)] := dig_one ⟨d, h⟩
theorem nDigits_le (u k : Nat) (h : u < 10 ^ k) (hk : 1 ≤ k) : Lib.nDigits u ≤ k := by
  by_cases h0 : u = 0
  · subst h0; rw [Lib.nDigits_small (by omega)]; exact hk
  · refine Nat.le_of_not_lt fun hh => ?_
    have : 10 ^ (Lib.nDigits u - 1) ≤ u := by
      clear h hk hh
      induction u using Nat.strongRecOn with
      | ind u ih =>
        by_cases h1 : u < 10
        · rw [Lib.nDigits_small h1]; simp; omega
        · rw [Lib.nDigits_big h1]
          have := ih (u / 10) (by omega) (by omega)
          have hp := Lib.nDigits_pos (u / 10)
          obtain ⟨m, hm⟩ : ∃ m, Lib.nDigits (u / 10) = m + 1 := ⟨Lib.nDigits (u / 10) - 1, by omega⟩
          rw [hm] at this ⊢
          simp only [Nat.add_sub_cancel] at *
          rw [Nat.pow_succ]
          omega
    have h2 : 10 ^ k ≤ 10 ^ (Lib.nDigits u - 1) := Nat.pow_le_pow_right (by omega) (by omega)
    omega
theorem dec_len (u : Nat) (h : u < 10000000000000000000) : (Lib.decDigits u).length ≤ 19 := by
  rw [Lib.decDigits_length]
  exact nDigits_le u 19 (by omega) (by omega)
theorem dec_ne (u : Nat) : Lib.decDigits u ≠ [] := by
  intro h
  have := Lib.decDigits_length u
  have h2 := Lib.nDigits_pos u
  rw [h] at this
  simp at this
  omega
theorem dec_digit (u : Nat) : ∀ b ∈ Lib.decDigits u, 48 ≤ b.toNat ∧ b.toNat ≤ 57 := by
  induction u using Nat.strongRecOn with
  | ind u ih =>
    intro b hb
    rw [Lib.decDigits] at hb
    split at hb
    · simp only [List.mem_singleton] at hb
      subst hb
      rw [UInt8.toNat_ofNat']
      omega
    · rcases List.mem_append.1 hb with hb | hb
      · exact ih (u / 10) (by omega) b hb
      · simp only [List.mem_singleton] at hb
        subst hb
        rw [UInt8.toNat_ofNat']
        omega
/-- The number of some digits. -/
def dval (l : List UInt8) : Nat := l.foldl (fun n b => 10 * n + (b.toNat - 48)) 0
theorem dval_snoc (l : List UInt8) (b : UInt8) : dval (l ++ [b]) = 10 * dval l + (b.toNat - 48) := by simp [dval]
theorem dval_dec (u : Nat) : dval (Lib.decDigits u) = u := by
  induction u using Nat.strongRecOn with
  | ind u ih =>
    rw [Lib.decDigits]
    split
    · simp [dval]; omega
    · rw [dval_snoc, ih (u / 10) (by omega), UInt8.toNat_ofNat']
      omega
theorem parse_dec (l : List UInt8) : ∀ acc, (∀ b ∈ l, 48 ≤ b.toNat ∧ b.toNat ≤ 57) → l.foldl (fun n b => 10 * n + (b.toNat - 48)) acc < 18446744073709551616 → Lib.parseUint10 acc l = .ok (l.foldl (fun n b => 10 * n + (b.toNat - 48)) acc) := by
  induction l with
  | nil => intro acc _ _; rfl
  | cons b l ih =>
    intro acc hd hlt
    have hb := hd b (by simp)
    have hmono : ∀ (r : List UInt8) (a : Nat), a ≤ r.foldl (fun n b => 10 * n + (b.toNat - 48)) a := by
      intro r
      induction r with
      | nil => intro a; exact Nat.le_refl _
      | cons x r ih2 => intro a; rw [List.foldl_cons]; exact Nat.le_trans (by omega) (ih2 _)
    have hm := hmono l (10 * acc + (b.toNat - 48))
    rw [List.foldl_cons] at hlt
    rw [Lib.parseUint10, if_pos hb, if_neg (by omega), if_neg (by omega), List.foldl_cons, Nat.mul_comm acc 10]
    exact ih _ (fun x hx => hd x (by simp [hx])) hlt
theorem parseMag_dec (u : Nat) (h : u < 18446744073709551616) : Lib.parseMag (Lib.decDigits u) = .ok u := by
  unfold Lib.parseMag
  rw [if_neg (dec_ne u)]
  have hv := dval_dec u
  unfold dval at hv
  rw [parse_dec _ 0 (dec_digit u) (by rw [hv]; exact h), hv]
theorem atoi_itoa (v : Int) (h : -9223372036854775808 ≤ v ∧ v ≤ 9223372036854775807) : Lib.atoiAll (Lib.itoa v) = .ok v := by
  by_cases h0 : v < 0
  · obtain ⟨u, rfl⟩ : ∃ u : Nat, v = -(u : Int) := ⟨v.natAbs, by omega⟩
    rw [itoa_neg u (by omega)]
    unfold Lib.atoiAll
    have e : (45 : UInt8).toNat = 45 := rfl
    simp only [e, or_true, if_true]
    rw [parseMag_dec u (by omega)]
    simp
    omega
  · obtain ⟨u, rfl⟩ := Int.eq_ofNat_of_zero_le (show 0 ≤ v by omega)
    rw [itoa_pos]
    have hne := dec_ne u
    have hd := dec_digit u
    have hp := parseMag_dec u (by omega)
    revert hne hd hp
    generalize Lib.decDigits u = l
    intro hne hd hp
    cases l with
    | nil => exact absurd rfl hne
    | cons c r =>
      have hc := hd c (by simp)
      unfold Lib.atoiAll
      simp only [show ¬ (c.toNat = 43 ∨ c.toNat = 45) by omega, if_false]
      rw [hp]
      simp only [show ¬ c.toNat = 45 by omega, if_false, not_false_eq_true, true_and, false_and]
      rw [if_neg (by omega)]
end Go.Proofs.YtbfddabljkoapaaGreatDoor

/-
  The order of two numbers and of two texts, and the first that is not 0 of some numbers.
-/
namespace Go.Proofs.YtbfddabljkoapaaGreatDoor
open Go.RowKit
set_option linter.unusedVariables false
set_option maxRecDepth 100000
set_option linter.unusedSimpArgs false

/-- The order of two numbers. -/
def lessI (a b : Int) : Int := if a < b then -1 else if b < a then 1 else 0
theorem lessI_lt {a b : Int} (h : a < b) : lessI a b = -1 := by unfold lessI; rw [if_pos h]
theorem lessI_gt {a b : Int} (h : b < a) : lessI a b = 1 := by unfold lessI; rw [if_neg (by omega), if_pos h]
theorem lessI_eq (a : Int) : lessI a a = 0 := by unfold lessI; rw [if_neg (by omega), if_neg (by omega)]
theorem lessI_zero {a b : Int} (h : lessI a b = 0) : a = b := by
  unfold lessI at h
  by_cases h1 : a < b
  · rw [if_pos h1] at h; omega
  · rw [if_neg h1] at h
    by_cases h2 : b < a
    · rw [if_pos h2] at h; omega
    · omega
/-- The order of two texts. -/
def lessT (a b : ByteArray) : Int := if Op.bytesLess a.toList b.toList = true then -1 else if (a.toList == b.toList) = true then 0 else 1
theorem lessT_zero {a b : ByteArray} (h : lessT a b = 0) : a = b := by
  unfold lessT at h
  by_cases h1 : Op.bytesLess a.toList b.toList = true
  · rw [if_pos h1] at h; omega
  · rw [if_neg h1] at h
    by_cases h2 : (a.toList == b.toList) = true
    · have h3 := eq_of_beq h2
      rw [ByteArray.toList_eq, ByteArray.toList_eq] at h3
      cases a; cases b
      simp only [ByteArray.mk.injEq]
      exact Array.toList_inj.1 h3
    · rw [if_neg h2] at h; omega
theorem bytesLess_self : ∀ l : List UInt8, Op.bytesLess l l = false
  | [] => rfl
  | a :: l => by simp [Op.bytesLess, bytesLess_self l]
theorem lessT_eq (a : ByteArray) : lessT a a = 0 := by unfold lessT; rw [if_neg (by simp [bytesLess_self]), if_pos (by simp)]

/-- The first number that is not 0. -/
def orN (f : Nat → Int) : Nat → Int
  | 0 => 0
  | n + 1 => if orN f n = 0 then f n else orN f n
theorem orN_zero (f : Nat → Int) : ∀ n, (∀ i, i < n → f i = 0) → orN f n = 0
  | 0, _ => rfl
  | n + 1, h => by
    have h1 := orN_zero f n (fun i hi => h i (by omega))
    unfold orN
    rw [if_pos h1]
    exact h n (by omega)
theorem orN_first (f : Nat → Int) : ∀ (n j : Nat), (∀ i, i < j → f i = 0) → j < n → f j ≠ 0 → orN f n = f j
  | 0, j, _, h, _ => by omega
  | n + 1, j, h, hj, hn => by
    unfold orN
    by_cases hjn : j = n
    · subst hjn
      rw [if_pos (orN_zero f j h)]
    · have h1 := orN_first f n j h (by omega) hn
      rw [if_neg (by rw [h1]; exact hn), h1]
theorem orN_all (f : Nat → Int) (n : Nat) (h : orN f n = 0) : ∀ i, i < n → f i = 0 := by
  intro i
  induction i using Nat.strongRecOn with
  | _ i ih =>
    intro hi
    by_cases h0 : f i = 0
    · exact h0
    · have h1 := orN_first f n i (fun k hk => ih k hk (by omega)) hi h0
      omega
end Go.Proofs.YtbfddabljkoapaaGreatDoor

/-
  The order of two numbers, plainly: their digits without noughts at the end.
-/
namespace Go.Proofs.YtbfddabljkoapaaGreatDoor
open Go.RowKit
set_option linter.unusedVariables false
set_option linter.unusedSimpArgs false

/-- Digits without the noughts at their end. -/
def cutZ (l : List UInt8) : List UInt8 := Lib.trimRightB l 48
theorem dropW_all : ∀ l : List UInt8, l.dropWhile (· == 48) = [] → ∀ b ∈ l, b = 48
  | [], _, b, hb => by cases hb
  | a :: l, h, b, hb => by
    by_cases ha : a = 48
    · subst ha
      rw [List.dropWhile_cons_of_pos (by rfl)] at h
      rcases List.mem_cons.1 hb with rfl | hb
      · rfl
      · exact dropW_all l h b hb
    · rw [List.dropWhile_cons_of_neg (by simpa using ha)] at h
      cases h
theorem dropW_split : ∀ l : List UInt8, l = List.replicate (l.length - (l.dropWhile (· == 48)).length) 48 ++ l.dropWhile (· == 48)
  | [] => rfl
  | a :: l => by
    by_cases ha : a = 48
    · subst ha
      rw [List.dropWhile_cons_of_pos (by rfl)]
      have h := dropW_split l
      have hl : (l.dropWhile (· == 48)).length ≤ l.length := (List.dropWhile_sublist _).length_le
      rw [List.length_cons, show l.length + 1 - (l.dropWhile (· == 48)).length = l.length - (l.dropWhile (· == 48)).length + 1 by omega, List.replicate_succ, List.cons_append, ← h]
    · rw [List.dropWhile_cons_of_neg (by simpa using ha)]
      simp
theorem dropW_head {l r : List UInt8} {a : UInt8} (h : l.dropWhile (· == 48) = a :: r) : a ≠ 48 := by
  induction l with
  | nil => cases h
  | cons b l ih =>
    by_cases hb : b = 48
    · subst hb
      rw [List.dropWhile_cons_of_pos (by rfl)] at h
      exact ih h
    · rw [List.dropWhile_cons_of_neg (by simpa using hb)] at h
      injection h with h1 h2
      subst h1
      exact hb
theorem cutZ_len (l : List UInt8) : (cutZ l).length ≤ l.length := by
  have : (l.reverse.dropWhile (· == 48)).length ≤ l.reverse.length := (List.dropWhile_sublist _).length_le
  unfold cutZ Lib.trimRightB
  rw [List.length_reverse]
  rw [List.length_reverse] at this
  exact this
theorem cutZ_split (l : List UInt8) : l = cutZ l ++ List.replicate (l.length - (cutZ l).length) 48 := by
  have h := congrArg List.reverse (dropW_split l.reverse)
  rw [List.reverse_reverse, List.reverse_append, List.reverse_replicate, List.length_reverse] at h
  unfold cutZ Lib.trimRightB
  rw [List.length_reverse]
  exact h
/-- The last of them is none. -/
theorem cutZ_last {l r : List UInt8} {a : UInt8} (h : cutZ l = r ++ [a]) : a ≠ 48 := by
  have h2 := congrArg List.reverse h
  unfold cutZ Lib.trimRightB at h2
  rw [List.reverse_reverse, List.reverse_append, List.reverse_singleton, List.singleton_append] at h2
  exact dropW_head h2
theorem cutZ_nil {l : List UInt8} (h : cutZ l = []) : ∀ b ∈ l, b = 48 := by
  have h2 := congrArg List.reverse h
  unfold cutZ Lib.trimRightB at h2
  rw [List.reverse_reverse] at h2
  intro b hb
  exact dropW_all l.reverse h2 b (by simpa using hb)
theorem dval_zeros : ∀ l : List UInt8, (∀ b ∈ l, b = 48) → dval l = 0 := by
  have h : ∀ l : List UInt8, (∀ b ∈ l, b = 48) → l.foldl (fun n b => 10 * n + (b.toNat - 48)) 0 = 0 := by
    intro l
    induction l with
    | nil => intro _; rfl
    | cons a l ih =>
      intro h
      have ha := h a (by simp)
      subst ha
      rw [List.foldl_cons]
      exact ih (fun b hb => h b (by simp [hb]))
  exact h
theorem cutZ_dec {u : Nat} (h : u ≠ 0) : cutZ (Lib.decDigits u) ≠ [] := by
  intro h2
  have := dval_zeros _ (cutZ_nil h2)
  rw [dval_dec] at this
  exact h this

theorem bl_tri : ∀ l m : List UInt8, (Op.bytesLess l m = true ∧ Op.bytesLess m l = false ∧ l ≠ m) ∨ (Op.bytesLess l m = false ∧ Op.bytesLess m l = false ∧ l = m) ∨ (Op.bytesLess l m = false ∧ Op.bytesLess m l = true ∧ l ≠ m)
  | [], [] => .inr (.inl ⟨rfl, rfl, rfl⟩)
  | [], b :: m => .inl ⟨rfl, rfl, by simp⟩
  | a :: l, [] => .inr (.inr ⟨rfl, rfl, by simp⟩)
  | a :: l, b :: m => by
    have ih := bl_tri l m
    by_cases h1 : a < b
    · have h2 : ¬ b < a := by intro h; have := UInt8.lt_iff_toNat_lt.1 h1; have := UInt8.lt_iff_toNat_lt.1 h; omega
      have h3 : a ≠ b := by rintro rfl; exact h2 h1
      exact .inl ⟨by simp [Op.bytesLess, h1], by simp [Op.bytesLess, h2, Ne.symm h3], by simp [h3]⟩
    · by_cases h2 : b < a
      · have h3 : a ≠ b := by rintro rfl; exact h1 h2
        exact .inr (.inr ⟨by simp [Op.bytesLess, h1, h3], by simp [Op.bytesLess, h2], by simp [h3]⟩)
      · have h3 : a = b := by
          apply UInt8.toNat_inj.1
          have e1 : ¬ a.toNat < b.toNat := fun h => h1 (UInt8.lt_iff_toNat_lt.2 h)
          have e2 : ¬ b.toNat < a.toNat := fun h => h2 (UInt8.lt_iff_toNat_lt.2 h)
          omega
        subst h3
        simpa [Op.bytesLess] using ih
theorem lessT_swap (a b : ByteArray) : lessT b a = - lessT a b := by
  unfold lessT
  rcases bl_tri a.toList b.toList with ⟨h1, h2, h3⟩ | ⟨h1, h2, h3⟩ | ⟨h1, h2, h3⟩
  · have h4 : (b.toList == a.toList) = false := by simpa using Ne.symm h3
    simp [h1, h2, h4]
  · have h4 : (b.toList == a.toList) = true := by simpa using h3.symm
    have h5 : (a.toList == b.toList) = true := by simpa using h3
    rw [h1, h2, h4, h5]
    rfl
  · have h4 : (a.toList == b.toList) = false := by simpa using h3
    simp [h1, h2, h4]
theorem lessI_swap (a b : Int) : lessI b a = - lessI a b := by
  unfold lessI
  repeat' split
  all_goals omega
theorem lessI_range (a b : Int) : -1 ≤ lessI a b ∧ lessI a b ≤ 1 := by
  unfold lessI
  repeat' split
  all_goals omega
theorem lessT_range (a b : ByteArray) : -1 ≤ lessT a b ∧ lessT a b ≤ 1 := by
  unfold lessT
  repeat' split
  all_goals omega

/-- The digits of a number. -/
def V.digs (v : V) : List UInt8 := Lib.decDigits v.n.natAbs
/-- How many digits a number has ahead of its point. -/
def V.mag (v : V) : Int := (v.digs.length : Int) + v.e
/-- The order of the sizes of two numbers that are not 0. -/
def sizeR (a b : V) : Int := if lessI a.mag b.mag = 0 then lessT (str (cutZ a.digs)) (str (cutZ b.digs)) else lessI a.mag b.mag
theorem sizeR_swap (a b : V) : sizeR b a = - sizeR a b := by
  unfold sizeR
  rw [lessI_swap a.mag b.mag, lessT_swap (str (cutZ a.digs)) (str (cutZ b.digs))]
  by_cases h : lessI a.mag b.mag = 0
  · rw [if_pos (by omega), if_pos h]
  · rw [if_neg (by omega), if_neg h]
theorem sizeR_range (a b : V) : -1 ≤ sizeR a b ∧ sizeR a b ≤ 1 := by
  have := lessI_range a.mag b.mag
  have := lessT_range (str (cutZ a.digs)) (str (cutZ b.digs))
  unfold sizeR
  split <;> omega
/-- A number's sign. -/
def sgR (v : V) : Int := lessI v.n 0
theorem sgR_cases (v : V) : (sgR v = -1 ∧ v.n < 0) ∨ (sgR v = 0 ∧ v.n = 0) ∨ (sgR v = 1 ∧ 0 < v.n) := by
  unfold sgR lessI
  repeat' split
  all_goals omega
/-- CompareNum. -/
noncomputable def cnR (a b : V) : Int := if numOk a ∧ numOk b then (if sgR a ≠ sgR b ∨ sgR a = 0 then lessI (sgR a) (sgR b) else sgR a * sizeR a b) else 2
theorem cnR_no {a b : V} (h : ¬ (numOk a ∧ numOk b)) : cnR a b = 2 := if_neg h
theorem cnR_sign {a b : V} (h : numOk a ∧ numOk b) (h2 : sgR a ≠ sgR b ∨ sgR a = 0) : cnR a b = lessI (sgR a) (sgR b) := by unfold cnR; rw [if_pos h, if_pos h2]
theorem cnR_pos {a b : V} (h : numOk a ∧ numOk b) (h1 : sgR a = 1) (h2 : sgR b = 1) : cnR a b = sizeR a b := by
  unfold cnR; rw [if_pos h, if_neg (by omega), h1]; omega
theorem cnR_neg {a b : V} (h : numOk a ∧ numOk b) (h1 : sgR a = -1) (h2 : sgR b = -1) : cnR a b = sizeR b a := by
  unfold cnR; rw [if_pos h, if_neg (by omega), h1, sizeR_swap a b]; omega
/-- The reference's digits, and its power. -/
def V.cutE (v : V) : Int := v.e + ((v.digs.length - (cutZ v.digs).length : Nat) : Int)
theorem V.cut_mag (v : V) : ((cutZ v.digs).length : Int) + v.cutE = v.mag := by
  have := cutZ_len v.digs
  unfold V.cutE V.mag
  omega
theorem numOk_n {v : V} (h : numOk v) : -20 ≤ v.e ∧ v.e ≤ 20 := by
  obtain ⟨h1, h2, h3, h4⟩ := okV_leaf h
  rcases h.1 with hk | hk
  · have := h3 hk; omega
  · have := h4 hk
    unfold decOk at this
    omega
end Go.Proofs.YtbfddabljkoapaaGreatDoor

/-
  DecText of the reference.
-/
namespace Go.Proofs.YtbfddabljkoapaaGreatDoor
open Go.RowKit
set_option linter.unusedVariables false

theorem str_cons (b : UInt8) (l : List UInt8) : str [b] ++ str l = str (b :: l) := by
  apply ByteArray.ext
  simp [str]
theorem strlen (l : List UInt8) : (str l).size = l.length := by simp [str, ByteArray.size]
theorem dd_cons (q u : Nat) (l : List UInt8) (h : q ≠ 0) (hl : dd q ++ l = dd u) : dd (q / 10) ++ (UInt8.ofNat (48 + q % 10) :: l) = dd u := by
  rw [← hl, ← dd_step q h]; simp

set_option maxHeartbeats 1000000 in
theorem specDecText_pos (u : Nat) (w : World) (h0 : 0 < u) (hu : u < 9223372036854775808) :
    Calls Tryz.prog 25 #[.int .i64 (u : Int)] w fun e w' => e = .returned (.string (str (Lib.itoa u))) ∧ w = w' := by
  have HR := Lib.hid (itoa_pos u)
  have HL := Lib.hid (dec_len u (by omega))
  have hz : ((u : Int) == 0) = false := by rw [beq_eq_false_iff_ne]; omega
  have hneg : decide ((u : Int) < 0) = false := decide_eq_false (by omega)
  go_enter Tryz.func25, Tryz.ntmps25
  go_wp2_with fail
  go_loop [3, 4] (fun o m => ∃ (q : Nat) (l : List UInt8), q ≤ u ∧ dd q ++ l = dd u ∧ m = .int .i64 (q : Int) ∧ o = .string (str l)) (fun _ m => (intOf m).toNat)
  case atStart => exact ⟨u, [], by omega, by simp, rfl, rfl⟩
  case round =>
    obtain ⟨q, l, hq, hl, rfl, rfl⟩ := hrel
    by_cases hq0 : q = 0
    · subst hq0
      have HE : Hid (str l = str (Lib.itoa u)) := Lib.hid (by rw [HR.out, ← dd_pos u (by omega), ← hl]; simp [dd])
      clear hl
      go_wp2_with fail
      go_ret
      exact ⟨congrArg (fun x => Ending.returned (.string x)) HE.out, rfl⟩
    · have HQ := Lib.hid (dd_cons q u l hq0 hl)
      have HD := Lib.hid (dig_at (q % 10) (by omega))
      have hlen : (str l).size ≤ 19 := by
        rw [strlen]
        have h1 := HL.out
        rw [← dd_pos u (by omega), ← hl, List.length_append] at h1
        omega
      have hqz : ((q : Int) == 0) = false := by rw [beq_eq_false_iff_ne]; omega
      clear hl
      go_wp2_with fail
      go_round
      case rel => refine ⟨q / 10, UInt8.ofNat (48 + q % 10) :: l, by omega, HQ.out, by go_num, ?_⟩; rw [HD.out, str_cons]
      case measure => simp [intOf]; omega

theorem neg_tdiv (q : Nat) : Int.tdiv (-(q : Int)) 10 = -((q / 10 : Nat) : Int) := by
  rw [Int.neg_tdiv]; rfl
theorem neg_tmod (q : Nat) : Int.tmod (-(q : Int)) 10 = -((q % 10 : Nat) : Int) := by
  rw [Int.neg_tmod]; rfl
set_option maxHeartbeats 1000000 in
theorem specDecText_neg (u : Nat) (w : World) (h0 : 0 < u) (hu : u ≤ 9223372036854775808) :
    Calls Tryz.prog 25 #[.int .i64 (-(u : Int))] w fun e w' => e = .returned (.string (str (Lib.itoa (-(u : Int))))) ∧ w = w' := by
  have HR := Lib.hid (itoa_neg u h0)
  have HL := Lib.hid (dec_len u (by omega))
  have hz : (-(u : Int) == 0) = false := by rw [beq_eq_false_iff_ne]; omega
  have hneg : decide (-(u : Int) < 0) = true := decide_eq_true (by omega)
  go_enter Tryz.func25, Tryz.ntmps25
  go_wp2_with fail
  go_loop [3, 4, 5] (fun o m _ => ∃ (q : Nat) (l : List UInt8), q ≤ u ∧ dd q ++ l = dd u ∧ m = .int .i64 (-(q : Int)) ∧ o = .string (str l)) (fun _ m _ => (intOf m).natAbs)
  case atStart => exact ⟨u, [], by omega, by simp, rfl, rfl⟩
  case round =>
    obtain ⟨q, l, hq, hl, rfl, rfl⟩ := hrel
    have hlen : (str l).size ≤ 19 := by
      rw [strlen]
      have h1 := HL.out
      rw [← dd_pos u (by omega), ← hl, List.length_append] at h1
      omega
    by_cases hq0 : q = 0
    · subst hq0
      have HE : Hid (str [45] ++ str l = str (Lib.itoa (-(u : Int)))) := Lib.hid (by rw [HR.out, str_cons, ← dd_pos u (by omega), ← hl]; simp [dd])
      clear hl
      go_wp2_with fail
      go_ret
      exact ⟨congrArg (fun x => Ending.returned (.string x)) HE.out, rfl⟩
    · have HQ := Lib.hid (dd_cons q u l hq0 hl)
      have HD := Lib.hid (dig_at (q % 10) (by omega))
      have hqz : (-(q : Int) == 0) = false := by rw [beq_eq_false_iff_ne]; omega
      have ht1 := neg_tdiv q
      have ht2 := neg_tmod q
      clear hl
      by_cases hd : q % 10 = 0
      · rw [hd] at ht2
        have hlt : decide (-((0 : Nat) : Int) < 0) = false := rfl
        go_wp2_with fail
        go_round
        case rel => refine ⟨q / 10, UInt8.ofNat (48 + q % 10) :: l, by omega, HQ.out, by go_num, ?_⟩; have hx := HD.out; rw [hd] at hx; rw [hx, hd, str_cons]
        case measure => simp only [intOf]; omega
      · have hlt : decide (-((q % 10 : Nat) : Int) < 0) = true := decide_eq_true (by omega)
        go_wp2_with fail
        go_round
        case rel => refine ⟨q / 10, UInt8.ofNat (48 + q % 10) :: l, by omega, HQ.out, by go_num, ?_⟩; rw [HD.out, str_cons]
        case measure => simp only [intOf]; omega

theorem specDecText (n : Int) (w : World) (h : -9223372036854775808 ≤ n ∧ n ≤ 9223372036854775807) :
    Calls Tryz.prog 25 #[.int .i64 n] w fun e w' => e = .returned (.string (str (Lib.itoa n))) ∧ w = w' := by
  by_cases h0 : n = 0
  · subst h0
    have HE : Hid ((⟨#[48]⟩ : ByteArray) = str (Lib.itoa 0)) := Lib.hid (by decide +kernel)
    go_enter Tryz.func25, Tryz.ntmps25
    go_wp2_with fail
    go_ret
    exact ⟨congrArg (fun x => Ending.returned (.string x)) HE.out, rfl⟩
  · by_cases hn : n < 0
    · obtain ⟨u, rfl⟩ : ∃ u : Nat, n = -(u : Int) := ⟨n.natAbs, by omega⟩
      exact specDecText_neg u w (by omega) (by omega)
    · obtain ⟨u, rfl⟩ := Int.eq_ofNat_of_zero_le (show 0 ≤ n by omega)
      exact specDecText_pos u w (by omega) (by omega)
end Go.Proofs.YtbfddabljkoapaaGreatDoor

/-
  ReadDec of the reference.
-/
namespace Go.Proofs.YtbfddabljkoapaaGreatDoor
open Go.RowKit
set_option linter.unusedVariables false

theorem i64r (n : Int) : -9223372036854775808 ≤ wrap64 n ∧ wrap64 n ≤ 9223372036854775807 := by rw [wrap64_eq]; omega
/-- A text that no number of 64 bits is written as. -/
def NoDec (s : ByteArray) : Prop := ∀ v : Int, -9223372036854775808 ≤ v ∧ v ≤ 9223372036854775807 → str (Lib.itoa v) ≠ s
theorem ba_list (x y : ByteArray) : (x.toList == y.toList) = decide (x = y) := by
  rw [Bool.eq_iff_iff, decide_eq_true_iff, beq_iff_eq, ByteArray.toList_eq, ByteArray.toList_eq]
  constructor
  · intro h
    apply ByteArray.ext
    exact Array.toList_inj.1 h
  · intro h; rw [h]
theorem ne_of_size {x y : ByteArray} (h : x.size ≠ y.size) : (x.toList == y.toList) = false := by
  rw [ba_list]; exact decide_eq_false (fun e => h (by rw [e]))
theorem wz (D b : Nat) (hb : 48 ≤ b) : wrap64 (wrap64 (10 * (D : Int) + b) - 48) = wrap64 ((10 * D + (b - 48) : Nat) : Int) := by
  rw [show ((10 * D + (b - 48) : Nat) : Int) = 10 * (D : Int) + b - 48 by omega]
  generalize 10 * (D : Int) + b = x
  simp only [wrap64_eq]
  omega
theorem tup2b {a a' : Int} {b b' : Bool} (h1 : a = a') (h2 : b = b') : Ending.returned (.tuple #[.int .i64 a, .bool b]) = Ending.returned (.tuple #[.int .i64 a', .bool b']) := by rw [h1, h2]
theorem str_at (l : List UInt8) (j : Nat) (h : j < (str l).size) : (str l)[j] = l[j]'(by rw [strlen] at h; exact h) := rfl
theorem dval_take (l : List UInt8) (j : Nat) (h : j < (str l).size) : dval (l.take (j + 1)) = 10 * dval (l.take j) + ((str l)[j].toNat - 48) := by
  have hl : j < l.length := by rw [strlen] at h; exact h
  rw [List.take_succ_eq_append_getElem hl, dval_snoc, str_at]
theorem dval_mono (l : List UInt8) (j : Nat) (h : j < (str l).size) : 10 * dval (l.take j) ≤ dval l := by
  have hl : j < l.length := by rw [strlen] at h; exact h
  have hm : ∀ (r : List UInt8) (a : Nat), a ≤ r.foldl (fun n b => 10 * n + (b.toNat - 48)) a := by
    intro r
    induction r with
    | nil => intro a; exact Nat.le_refl _
    | cons x r ih2 => intro a; rw [List.foldl_cons]; exact Nat.le_trans (by omega) (ih2 _)
  have e : l = l.take j ++ (l[j] :: l.drop (j + 1)) := by rw [← List.drop_eq_getElem_cons hl, List.take_append_drop]
  conv => rhs; rw [e]
  unfold dval
  rw [List.foldl_append, List.foldl_cons]
  exact Nat.le_trans (by omega) (hm _ _)

set_option maxHeartbeats 2000000 in
theorem specReadDec_noE (s : ByteArray) (w : World) (hs : s.size ≤ 1048576) (hno : NoDec s) (h0 : s.size = 0) :
    Calls Tryz.prog 20 #[.string s] w fun e w' => e = .returned (.tuple #[.int .i64 0, .bool false]) ∧ w = w' := by
  have HN := Lib.hid hno
  clear hno
  go_enter Tryz.func20, Tryz.ntmps20
  go_wp2_with fail
  go_loop [5, 6] (fun n k => ∃ (j : Nat) (z : Int), j ≤ s.size ∧ k = .int .i64 j ∧ n = .int .i64 z ∧ -9223372036854775808 ≤ z ∧ z ≤ 9223372036854775807) (fun _ k => s.size - (intOf k).toNat)
  case atStart => exact ⟨0, 0, by omega, rfl, rfl, by omega, by omega⟩
  case round =>
    obtain ⟨j, z, hj, rfl, rfl, hz1, hz2⟩ := hrel
    by_cases hlt : j < s.size
    · exact absurd hlt (by omega)
    · obtain rfl : j = s.size := by omega
      have hrng : -9223372036854775808 ≤ z ∧ z ≤ 9223372036854775807 := ⟨hz1, hz2⟩
      have ht : ((str (Lib.itoa z)).toList == s.toList) = false := by rw [ba_list]; exact decide_eq_false (HN.out _ hrng)
      go_wp2_with fail
      all_goals first
        | (go_ret2; exact ⟨rfl, rfl⟩)
        | (refine (specDecText _ _ hrng).mono ?_
           rintro e w1 ⟨rfl, rfl⟩
           go_wp2_with fail
           go_ret2
           exact ⟨rfl, rfl⟩)

set_option maxHeartbeats 2000000 in
theorem specReadDec_noP (s : ByteArray) (w : World) (hs : s.size ≤ 1048576) (hno : NoDec s) (h0 : 0 < s.size) (h45 : ¬ s[0].toNat = 45) :
    Calls Tryz.prog 20 #[.string s] w fun e w' => e = .returned (.tuple #[.int .i64 0, .bool false]) ∧ w = w' := by
  have HN := Lib.hid hno
  clear hno
  have h45b : ((s[0].toNat : Int) == 45) = false := by rw [beq_eq_false_iff_ne]; omega
  go_enter Tryz.func20, Tryz.ntmps20
  go_wp2_with fail
  go_loop [5, 6] (fun n k => ∃ (j : Nat) (z : Int), j ≤ s.size ∧ k = .int .i64 j ∧ n = .int .i64 z ∧ -9223372036854775808 ≤ z ∧ z ≤ 9223372036854775807) (fun _ k => s.size - (intOf k).toNat)
  case atStart => exact ⟨0, 0, by omega, rfl, rfl, by omega, by omega⟩
  case round =>
    obtain ⟨j, z, hj, rfl, rfl, hz1, hz2⟩ := hrel
    by_cases hlt : j < s.size
    · have hu : s[j].toNat < 256 := UInt8.toNat_lt _
      by_cases hd : 48 ≤ s[j].toNat ∧ s[j].toNat ≤ 57
      · have hd1 : decide ((48 : Int) ≤ s[j].toNat) = true := decide_eq_true (by omega)
        have hd2 : decide ((s[j].toNat : Int) ≤ 57) = true := decide_eq_true (by omega)
        by_cases hl : s.size ≤ 19
        · go_wp2_with (go_at_call 67; go_in)
          go_round
          case rel => exact ⟨j + 1, _, by omega, by go_num, rfl, (i64r _).1, (i64r _).2⟩
          case measure => simp [intOf]; omega
        · go_wp2_with (go_at_call 67; go_in)
          go_ret2
          exact ⟨rfl, rfl⟩
      · rcases (show decide ((48 : Int) ≤ s[j].toNat) = false ∨ (decide ((48 : Int) ≤ s[j].toNat) = true ∧ decide ((s[j].toNat : Int) ≤ 57) = false) by simp; omega) with hc | hc
        all_goals
          clear hd
          go_wp2_with (go_at_call 67; go_in)
          go_ret2
          exact ⟨rfl, rfl⟩
    · obtain rfl : j = s.size := by omega
      have hrng : -9223372036854775808 ≤ z ∧ z ≤ 9223372036854775807 := ⟨hz1, hz2⟩
      have ht : ((str (Lib.itoa z)).toList == s.toList) = false := by rw [ba_list]; exact decide_eq_false (HN.out _ hrng)
      go_wp2_with fail
      all_goals first
        | (go_ret2; exact ⟨rfl, rfl⟩)
        | (refine (specDecText _ _ hrng).mono ?_
           rintro e w1 ⟨rfl, rfl⟩
           go_wp2_with fail
           go_ret2
           exact ⟨rfl, rfl⟩)

set_option maxHeartbeats 2000000 in
theorem specReadDec_noM (s : ByteArray) (w : World) (hs : s.size ≤ 1048576) (hno : NoDec s) (h0 : 0 < s.size) (h45 : s[0].toNat = 45) :
    Calls Tryz.prog 20 #[.string s] w fun e w' => e = .returned (.tuple #[.int .i64 0, .bool false]) ∧ w = w' := by
  have HN := Lib.hid hno
  clear hno
  have h45b : ((s[0].toNat : Int) == 45) = true := by rw [beq_iff_eq]; omega
  have htz : (s.extract 1 s.size).size = s.size - 1 := by rw [ByteArray.size_extract]; omega
  go_enter Tryz.func20, Tryz.ntmps20
  go_wp2_with fail
  generalize hT : s.extract 1 s.size = t at *
  have hts : (t.toList == s.toList) = false := ne_of_size (by omega)
  go_loop [5, 6] (fun n k => ∃ (j : Nat) (z : Int), j ≤ t.size ∧ k = .int .i64 j ∧ n = .int .i64 z ∧ -9223372036854775808 ≤ z ∧ z ≤ 9223372036854775807) (fun _ k => t.size - (intOf k).toNat)
  case atStart => exact ⟨0, 0, by omega, rfl, rfl, by omega, by omega⟩
  case round =>
    obtain ⟨j, z, hj, rfl, rfl, hz1, hz2⟩ := hrel
    by_cases hlt : j < t.size
    · have hu : t[j].toNat < 256 := UInt8.toNat_lt _
      by_cases hd : 48 ≤ t[j].toNat ∧ t[j].toNat ≤ 57
      · have hd1 : decide ((48 : Int) ≤ t[j].toNat) = true := decide_eq_true (by omega)
        have hd2 : decide ((t[j].toNat : Int) ≤ 57) = true := decide_eq_true (by omega)
        by_cases hl : t.size ≤ 19
        · go_wp2_with (go_at_call 67; go_in)
          go_round
          case rel => exact ⟨j + 1, _, by omega, by go_num, rfl, (i64r _).1, (i64r _).2⟩
          case measure => simp [intOf]; omega
        · go_wp2_with (go_at_call 67; go_in)
          go_ret2
          exact ⟨rfl, rfl⟩
      · rcases (show decide ((48 : Int) ≤ t[j].toNat) = false ∨ (decide ((48 : Int) ≤ t[j].toNat) = true ∧ decide ((t[j].toNat : Int) ≤ 57) = false) by simp; omega) with hc | hc
        all_goals
          clear hd
          go_wp2_with (go_at_call 67; go_in)
          go_ret2
          exact ⟨rfl, rfl⟩
    · obtain rfl : j = t.size := by omega
      have hrng : -9223372036854775808 ≤ (wrap64 (-z)) ∧ (wrap64 (-z)) ≤ 9223372036854775807 := i64r _
      have ht : ((str (Lib.itoa (wrap64 (-z)))).toList == s.toList) = false := by rw [ba_list]; exact decide_eq_false (HN.out _ hrng)
      go_wp2_with fail
      all_goals first
        | (go_ret2; exact ⟨rfl, rfl⟩)
        | (refine (specDecText _ _ hrng).mono ?_
           rintro e w1 ⟨rfl, rfl⟩
           go_wp2_with fail
           go_ret2
           exact ⟨rfl, rfl⟩)

set_option maxHeartbeats 2000000 in
theorem specReadDec_yesP (u : Nat) (w : World) (hu : u < 9223372036854775808) :
    Calls Tryz.prog 20 #[.string (str (Lib.itoa (u : Int)))] w fun e w' => e = .returned (.tuple #[.int .i64 (u : Int), .bool true]) ∧ w = w' := by
  have HV := Lib.hid (dval_dec u)
  have hlen := dec_len u (by omega)
  have hne := dec_ne u
  have HD := Lib.hid (dec_digit u)
  have HI : Hid (Lib.itoa (u : Int) = Lib.decDigits u) := Lib.hid (itoa_pos u)
  have HT : Hid (((str (Lib.itoa (u : Int))).toList == (str (Lib.itoa (u : Int))).toList) = true) := Lib.hid (by simp)
  rw [HI.out] at HT ⊢
  generalize Lib.decDigits u = l at *
  have hpos : 0 < l.length := List.length_pos_iff.2 hne
  clear hne
  have hs : (str l).size = l.length := strlen l
  have h45 : ¬ ((str l)[0]'(by omega)).toNat = 45 := by
    rw [str_at]
    have := HD.out l[0] (List.getElem_mem _)
    omega
  have h45b : ((((str l)[0]'(by omega)).toNat : Int) == 45) = false := by rw [beq_eq_false_iff_ne]; omega
  have hts : ((str l).toList == (str l).toList) = true := by simp
  have hte : ((str l).toList == (⟨#[]⟩ : ByteArray).toList) = false := ne_of_size (by rw [hs]; show _ ≠ 0; omega)
  have hte2 : ((str l).toList = []) = False := by rw [ByteArray.toList_eq]; simp [str]; intro h; rw [h] at hpos; simp at hpos
  have hte3 : (str l).toList.isEmpty = false := by rw [List.isEmpty_eq_false_iff]; intro h; exact hte2.mp h
  have HB : Hid (∀ (j : Nat) (h : j < (str l).size), 48 ≤ (str l)[j].toNat ∧ (str l)[j].toNat ≤ 57) := Lib.hid (fun j h => by rw [str_at]; exact HD.out _ (List.getElem_mem _))
  have HK : Hid (∀ (j : Nat) (h : j < (str l).size), dval (l.take (j + 1)) = 10 * dval (l.take j) + ((str l)[j].toNat - 48)) := Lib.hid (dval_take l)
  have HM : Hid (∀ (j : Nat) (h : j < (str l).size), 10 * dval (l.take j) ≤ u) := Lib.hid (fun j h => by rw [← HV.out]; exact dval_mono l j h)
  have HZ : Hid (dval (l.take (str l).size) = u) := Lib.hid (by rw [strlen, List.take_length]; exact HV.out)
  go_enter Tryz.func20, Tryz.ntmps20
  go_wp2_with fail
  go_loop [5, 6] (fun n k => ∃ (j : Nat), j ≤ (str l).size ∧ k = .int .i64 j ∧ n = .int .i64 (wrap64 (dval (l.take j) : Nat))) (fun _ k => (str l).size - (intOf k).toNat)
  case atStart => exact ⟨0, by omega, rfl, by show Value.int .i64 0 = .int .i64 (wrap64 0); rw [wrap64_eq]; rfl⟩
  case round =>
    obtain ⟨j, hj, rfl, rfl⟩ := hrel
    by_cases hlt : j < (str l).size
    · have hu2 : (str l)[j].toNat < 256 := UInt8.toNat_lt _
      have hd := HB.out j hlt
      have hd1 : decide ((48 : Int) ≤ (str l)[j].toNat) = true := decide_eq_true (by omega)
      have hd2 : decide (((str l)[j].toNat : Int) ≤ 57) = true := decide_eq_true (by omega)
      have hM := HM.out j hlt
      have HKj := Lib.hid (HK.out j hlt)
      generalize dval (l.take j) = D at *
      rw [show wrap64 (D : Int) = D by rw [wrap64_eq]; omega]
      go_wp2_with (go_at_call 67; go_in)
      go_round
      case rel => exact ⟨j + 1, by omega, by go_num, by rw [HKj.out]; exact congrArg (Value.int .i64) (wz D _ hd.1)⟩
      case measure => simp [intOf]; omega
    · obtain rfl : j = (str l).size := by omega
      rw [HZ.out]
      have hwz : wrap64 (u : Int) = (u : Int) := by simp only [wrap64_eq]; omega
      rw [hwz]
      have hx : ((str (Lib.itoa (u : Int))).toList == (str (l)).toList) = true := by rw [HI.out]; exact HT.out
      go_wp2_with fail
      refine (specDecText _ _ (by omega)).mono ?_
      rintro e w1 ⟨rfl, rfl⟩
      go_wp2_with fail
      all_goals go_ret2
      all_goals first
        | exact ⟨rfl, rfl⟩
        | (have hq : (!(str (Lib.itoa (u : Int))).toList == (str (l)).toList) = true := by assumption
           rw [hx] at hq; cases hq)

set_option maxHeartbeats 2000000 in
theorem specReadDec_yesM (u : Nat) (w : World) (h0 : 0 < u) (hu : u ≤ 9223372036854775808) :
    Calls Tryz.prog 20 #[.string (str (Lib.itoa (-(u : Int))))] w fun e w' => e = .returned (.tuple #[.int .i64 (-(u : Int)), .bool true]) ∧ w = w' := by
  have HV := Lib.hid (dval_dec u)
  have hlen := dec_len u (by omega)
  have hne := dec_ne u
  have HD := Lib.hid (dec_digit u)
  have HI : Hid (Lib.itoa (-(u : Int)) = 45 :: Lib.decDigits u) := Lib.hid (itoa_neg u h0)
  have HT : Hid (((str (Lib.itoa (-(u : Int)))).toList == (str (Lib.itoa (-(u : Int)))).toList) = true) := Lib.hid (by simp)
  rw [HI.out] at HT ⊢
  generalize Lib.decDigits u = l at *
  have hpos : 0 < l.length := List.length_pos_iff.2 hne
  clear hne
  have HE : Hid ((str (45 :: l)).extract 1 (l.length + 1) = str l) := Lib.hid (by
    apply ByteArray.ext
    simp [str])
  have hs : (str (45 :: l)).size = l.length + 1 := by rw [strlen]; rfl
  have h45 : ((str (45 :: l))[0]'(by omega)).toNat = 45 := by rw [str_at]; rfl
  have h45b : ((((str (45 :: l))[0]'(by omega)).toNat : Int) == 45) = true := by rw [beq_iff_eq]; omega
  have hs2 : (str l).size = l.length := strlen l
  have hts : ((str l).toList == (str (45 :: l)).toList) = false := ne_of_size (by omega)
  have hte : ((str l).toList == (⟨#[]⟩ : ByteArray).toList) = false := ne_of_size (by rw [hs2]; show _ ≠ 0; omega)
  have hte2 : ((str l).toList = []) = False := by rw [ByteArray.toList_eq]; simp [str]; intro h; rw [h] at hpos; simp at hpos
  have hte3 : (str l).toList.isEmpty = false := by rw [List.isEmpty_eq_false_iff]; intro h; exact hte2.mp h
  have HB : Hid (∀ (j : Nat) (h : j < (str l).size), 48 ≤ (str l)[j].toNat ∧ (str l)[j].toNat ≤ 57) := Lib.hid (fun j h => by rw [str_at]; exact HD.out _ (List.getElem_mem _))
  have HK : Hid (∀ (j : Nat) (h : j < (str l).size), dval (l.take (j + 1)) = 10 * dval (l.take j) + ((str l)[j].toNat - 48)) := Lib.hid (dval_take l)
  have HM : Hid (∀ (j : Nat) (h : j < (str l).size), 10 * dval (l.take j) ≤ u) := Lib.hid (fun j h => by rw [← HV.out]; exact dval_mono l j h)
  have HZ : Hid (dval (l.take (str l).size) = u) := Lib.hid (by rw [strlen, List.take_length]; exact HV.out)
  go_enter Tryz.func20, Tryz.ntmps20
  go_wp2_with fail
  rw [HE.out]
  go_loop [5, 6] (fun n k => ∃ (j : Nat), j ≤ (str l).size ∧ k = .int .i64 j ∧ n = .int .i64 (wrap64 (dval (l.take j) : Nat))) (fun _ k => (str l).size - (intOf k).toNat)
  case atStart => exact ⟨0, by omega, rfl, by show Value.int .i64 0 = .int .i64 (wrap64 0); rw [wrap64_eq]; rfl⟩
  case round =>
    obtain ⟨j, hj, rfl, rfl⟩ := hrel
    by_cases hlt : j < (str l).size
    · have hu2 : (str l)[j].toNat < 256 := UInt8.toNat_lt _
      have hd := HB.out j hlt
      have hd1 : decide ((48 : Int) ≤ (str l)[j].toNat) = true := decide_eq_true (by omega)
      have hd2 : decide (((str l)[j].toNat : Int) ≤ 57) = true := decide_eq_true (by omega)
      have hM := HM.out j hlt
      have HKj := Lib.hid (HK.out j hlt)
      generalize dval (l.take j) = D at *
      rw [show wrap64 (D : Int) = D by rw [wrap64_eq]; omega]
      go_wp2_with (go_at_call 67; go_in)
      go_round
      case rel => exact ⟨j + 1, by omega, by go_num, by rw [HKj.out]; exact congrArg (Value.int .i64) (wz D _ hd.1)⟩
      case measure => simp [intOf]; omega
    · obtain rfl : j = (str l).size := by omega
      rw [HZ.out]
      have hwz : wrap64 (-(wrap64 (u : Int))) = -(u : Int) := by simp only [wrap64_eq]; omega
      have hx : ((str (Lib.itoa (-(u : Int)))).toList == (str (45 :: l)).toList) = true := by rw [HI.out]; exact HT.out
      go_wp2_with fail
      refine (specDecText _ _ (by omega)).mono ?_
      rintro e w1 ⟨rfl, rfl⟩
      go_wp2_with fail
      all_goals go_ret2
      all_goals first
        | exact ⟨rfl, rfl⟩
        | (have hq : (!(str (Lib.itoa (-(u : Int)))).toList == (str (45 :: l)).toList) = true := by assumption
           rw [hx] at hq; cases hq)
end Go.Proofs.YtbfddabljkoapaaGreatDoor
