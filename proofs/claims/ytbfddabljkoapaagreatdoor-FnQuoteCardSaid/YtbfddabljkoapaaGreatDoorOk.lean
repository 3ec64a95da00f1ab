/-
  What the proofs of this seat share: values as trees, the laws' own functions on them, and whether a value is right.
-/
import Derived.Test.YtbfddabljkoapaaGreatDoorRows
import Derived.WalkKit
import Derived.ProofKit
import Derived.OpenShut
import Derived.ShutString
import Derived.ChangeOld
import Derived.Below
import Derived.WalkSpells
import Derived.WalkLawsBesides
import Derived.Lib.Hide
import Derived.Laws.BitsAllLaws
import Derived.Laws.OwnMore
import Derived.RegionTactic
import Derived.OwnWalk
import Derived.Deep.Draws
import Derived.Laws.IdiomStrings
import Derived.Maps.AppendAt
import Derived.Lib.DecodeN
import Derived.Lib.ValidLaws
import Derived.Test.YtbfddabljkoapaaGreatDoorShelf
import Derived.Handy
import Derived.Deep.RegionHeld3
import Derived.BigQuiet
import Derived.Deep.QuietTactic
import Derived.Shelf.Strings.CaseAny
import Derived.Shelf.Unicode.DecodeSlow
import Derived.Lib.RuneCountTail
import Derived.Test.YtbfddabljkoapaaGreatDoorShelfC
import Derived.Lib.AppendStr
import Derived.Test.YtbfddabljkoapaaGreatDoorShelfV
/-
  Facts about the program that every text of this seat uses.
-/
namespace Go.Proofs.YtbfddabljkoapaaGreatDoor
open Go.ChangeShapes Go.WideShapes Go.ChangeAt Go.RowKit
theorem own : ownKnob Tryz.prog.godebug = none := by kernel_rfl
theorem laidOut : laidOutB Tryz.prog = true := by kernel_rfl
end Go.Proofs.YtbfddabljkoapaaGreatDoor

/-
  Plain facts on lists of bytes; no program.
-/
namespace Go.Proofs.YtbfddabljkoapaaGreatDoor
open Go.RowKit

/-- A byte as a value. -/
def bv (b : UInt8) : Value := .int .u8 (b.toNat : Int)

theorem bv_one (l : List UInt8) : ∀ u ∈ l.map bv, u.oneCell' = true := by
  intro u hu
  obtain ⟨_, _, rfl⟩ := List.mem_map.1 hu
  rfl

/-- The text of a list of bytes. -/
def str (l : List UInt8) : ByteArray := ⟨l.toArray⟩

/-- One hexadecimal digit. -/
def hexD (n : Nat) : UInt8 := if n < 10 then UInt8.ofNat (48 + n) else UInt8.ofNat (87 + n)
def hexOf (l : List UInt8) : List UInt8 := l.flatMap fun b => [hexD (b.toNat / 16), hexD (b.toNat % 16)]
theorem hexOf_len (l : List UInt8) : (hexOf l).length = 2 * l.length := by
  induction l with
  | nil => rfl
  | cons b l ih => simp only [hexOf, List.flatMap_cons, List.length_append, List.length_cons, List.length_nil] at *; omega
theorem hexOf_snoc (l : List UInt8) (b : UInt8) : hexOf (l ++ [b]) = hexOf l ++ [hexD (b.toNat / 16), hexD (b.toNat % 16)] := by
  simp [hexOf]
theorem take_snoc (s : ByteArray) (k : Nat) (h : k < s.size) : s.data.toList.take (k + 1) = s.data.toList.take k ++ [s[k]] := by
  rw [List.take_succ_eq_append_getElem (by simpa using h)]; rfl

theorem and15 (n : Nat) (h : n < 256) : bits .and .u8 (n : Int) 15 = ((n % 16 : Nat) : Int) := by
  rw [show (15 : Int) = ((15 : Nat) : Int) from rfl, u8_and_nat n 15 h (by omega)]
  congr 1
  exact Nat.and_two_pow_sub_one_eq_mod n 4
/-- The text of the sixteen digits. -/
theorem digit_at (n : Nat) (h : n < 16) : ∃ hn, (ByteArray.mk #[48, 49, 50, 51, 52, 53, 54, 55, 56, 57, 97, 98, 99, 100, 101, 102])[n]'hn = hexD n := by
  refine ⟨h, ?_⟩
  have : ∀ m : Fin 16, (ByteArray.mk #[48, 49, 50, 51, 52, 53, 54, 55, 56, 57, 97, 98, 99, 100, 101, 102])[m.val]'m.isLt = hexD m.val := by decide
  exact this ⟨n, h⟩
theorem digit_at' (n : Nat) (hn) : (ByteArray.mk #[48, 49, 50, 51, 52, 53, 54, 55, 56, 57, 97, 98, 99, 100, 101, 102])[n]'hn = hexD n := (digit_at n hn).2
theorem hex_cells (n : Nat) (p q) : #[Value.int .u8 (((ByteArray.mk #[48, 49, 50, 51, 52, 53, 54, 55, 56, 57, 97, 98, 99, 100, 101, 102])[((n : Int) / 16).toNat]'p).toNat : Int), Value.int .u8 (((ByteArray.mk #[48, 49, 50, 51, 52, 53, 54, 55, 56, 57, 97, 98, 99, 100, 101, 102])[((n : Int) % 16).toNat]'q).toNat : Int)].toList = [hexD (n / 16), hexD (n % 16)].map bv := by
  rw [digit_at', digit_at']
  have e1 : ((n : Int) / 16).toNat = n / 16 := by omega
  have e2 : ((n : Int) % 16).toNat = n % 16 := by omega
  rw [e1, e2]
  rfl
theorem quo16 (n : Nat) (h : n < 256) : IntKind.u8.wrap ((n : Int) / 16) = (n : Int) / 16 := by
  rw [IntKind.wrap_u8']; omega
theorem rem16 (n : Nat) : (n : Int).tmod 16 = (n : Int) % 16 := Int.tmod_eq_emod_of_nonneg (by omega)
end Go.Proofs.YtbfddabljkoapaaGreatDoor

/-
  Laws for this seat's walks: an append onto a row of the call's own, said together with what lay below.
-/
namespace Go.Proofs.YtbfddabljkoapaaGreatDoor
open Go.RowKit

section
variable {P : Program} {ops : Array Oper} {o : Oper} {a : Act} {w : World} {K : Act → World → Prop} {Q : Exit → Act → World → Prop}

theorem wp_app (s x : Operand) (t : TypeId) (ho : o.op = .call { callee := .builtin .append, args := #[s, x], argTypes := #[t, t] })
    (base : Nat) (e : TypeId) {z : Value} {size bytes : Nat} (ht : P.underlying t = some (.slice e)) (hinfo : (P.info? e).map (fun i => (i.zero, i.size, i.bytes)) = some (some z, size, bytes)) (hzs : z.cells.size = size) (hsz : 0 < size)
    {W : World} {v : Value} {n : Nat} {xs : List Value} (hs : a.eval s = v) (hown : w.ownsRow base e size v n xs) (hb : Below base W w) (hB : base ≤ w.heap.size)
    (ad : Addr) (m c : Nat) (news : List Value) (hx : a.eval x = .slice (some ad) m c) (hl : news.length = m * size) (hnews : ∀ j u, news[j]? = some u → w.cell? (ad.add j) = some u) (h1 : ∀ u ∈ news, u.oneCell' = true)
    (h63 : n + m ≤ maxLen) (hbytes : (n + m) * bytes ≤ 140737488355328)
    (h : ∀ v' w', w'.ownsRow base e size v' (n + m) (xs ++ news) → Below base W w' → base ≤ w'.heap.size → K (a.put o.dst v') w') : o.wp P a w K Q := by
  obtain ⟨i, hi, hz, hsize, hby⟩ := info_parts hinfo
  obtain ⟨v', w', hrun, h2, h3, h4⟩ := run_append_own (P := P) w base t o.type e i z size bytes ht hi hz hsize hby hzs hsz v n xs hown ad m c news hl hnews h1 h63 hbytes hB
  unfold Oper.wp execOp
  simp only [ho, resolve, invoke, builtin, Sem.run_bind, Sem.run_pure, Result.andThen_ok, List.map_toArray, List.map_cons, List.map_nil, hs, hx, hrun]
  exact h v' w' h2 (hb.grown h3 hB (fun k hk => (hown.lt k hk).1)) (Nat.le_trans hB h3.size)

/-- The same as a step of a list of operations. -/
theorem wpList_app {rest : List Oper} (hgd : o.guard = none) (s x : Operand) (t : TypeId) (ho : o.op = .call { callee := .builtin .append, args := #[s, x], argTypes := #[t, t] })
    (base : Nat) (e : TypeId) {z : Value} {size bytes : Nat} (ht : P.underlying t = some (.slice e)) (hinfo : (P.info? e).map (fun i => (i.zero, i.size, i.bytes)) = some (some z, size, bytes)) (hzs : z.cells.size = size) (hsz : 0 < size)
    {W : World} {v : Value} {n : Nat} {xs : List Value} (hs : a.eval s = v) (hown : w.ownsRow base e size v n xs) (hb : Below base W w) (hB : base ≤ w.heap.size)
    (ad : Addr) (m c : Nat) (news : List Value) (hx : a.eval x = .slice (some ad) m c) (hl : news.length = m * size) (hnews : ∀ j u, news[j]? = some u → w.cell? (ad.add j) = some u) (h1 : ∀ u ∈ news, u.oneCell' = true)
    (h63 : n + m ≤ maxLen) (hbytes : (n + m) * bytes ≤ 140737488355328)
    (h : ∀ v' w', w'.ownsRow base e size v' (n + m) (xs ++ news) → Below base W w' → base ≤ w'.heap.size → wpList P ops Q rest (a.put o.dst v') w') : wpList P ops Q (o :: rest) a w :=
  wpList_plain hgd fun _ hK => wp_app s x t ho base e ht hinfo hzs hsz hs hown hb hB ad m c news hx hl hnews h1 h63 hbytes fun v' w' h2 h3 h4 => hK _ _ (h v' w' h2 h3 h4)

/-- An append that says which block the row lies in behind it. -/
theorem wpList_app2 {rest : List Oper} (hgd : o.guard = none) (s x : Operand) (t : TypeId) (ho : o.op = .call { callee := .builtin .append, args := #[s, x], argTypes := #[t, t] })
    (base : Nat) (e : TypeId) {z : Value} {size bytes : Nat} (ht : P.underlying t = some (.slice e)) (hinfo : (P.info? e).map (fun i => (i.zero, i.size, i.bytes)) = some (some z, size, bytes)) (hzs : z.cells.size = size) (hsz : 0 < size)
    {v : Value} {n : Nat} {xs : List Value} (hs : a.eval s = v) (hown : w.ownsRow base e size v n xs) (hB : base ≤ w.heap.size)
    (ad : Addr) (m c : Nat) (news : List Value) (hx : a.eval x = .slice (some ad) m c) (hl : news.length = m * size) (hnews : ∀ j u, news[j]? = some u → w.cell? (ad.add j) = some u) (h1 : ∀ u ∈ news, u.oneCell' = true)
    (h63 : n + m ≤ maxLen) (hbytes : (n + m) * bytes ≤ 140737488355328)
    (h : ∀ v' w', w'.ownsRow base e size v' (n + m) (xs ++ news) → w.grownBy w' v.ownBlock → (v'.ownBlock = v.ownBlock ∨ v'.ownBlock = some w.heap.size) → wpList P ops Q rest (a.put o.dst v') w') : wpList P ops Q (o :: rest) a w :=
  wpList_plain hgd fun _ hK => by
    obtain ⟨i, hi, hz, hsize, hby⟩ := info_parts hinfo
    obtain ⟨v', w', hrun, h2, h3, h4, h5⟩ := run_append_own_at (P := P) w base t o.type e i z size bytes ht hi hz hsize hby hzs hsz v n xs hown ad m c news hl hnews h1 h63 hbytes hB
    unfold Oper.wp execOp
    simp only [ho, resolve, invoke, builtin, Sem.run_bind, Sem.run_pure, Result.andThen_ok, List.map_toArray, List.map_cons, List.map_nil, hs, hx, hrun]
    exact hK _ _ (h v' w' h2 h3 h5)
/-- An append that says besides when the row is nil. -/
theorem wpList_app3 {rest : List Oper} (hgd : o.guard = none) (s x : Operand) (t : TypeId) (ho : o.op = .call { callee := .builtin .append, args := #[s, x], argTypes := #[t, t] })
    (base : Nat) (e : TypeId) {z : Value} {size bytes : Nat} (ht : P.underlying t = some (.slice e)) (hinfo : (P.info? e).map (fun i => (i.zero, i.size, i.bytes)) = some (some z, size, bytes)) (hzs : z.cells.size = size) (hsz : 0 < size)
    {v : Value} {n : Nat} {xs : List Value} (hs : a.eval s = v) (hown : w.ownsRow base e size v n xs) (hB : base ≤ w.heap.size)
    (ad : Addr) (m c : Nat) (news : List Value) (hx : a.eval x = .slice (some ad) m c) (hl : news.length = m * size) (hnews : ∀ j u, news[j]? = some u → w.cell? (ad.add j) = some u) (h1 : ∀ u ∈ news, u.oneCell' = true)
    (h63 : n + m ≤ maxLen) (hbytes : (n + m) * bytes ≤ 140737488355328)
    (h : ∀ v' w', w'.ownsRow base e size v' (n + m) (xs ++ news) → w.grownBy w' v.ownBlock → (v'.ownBlock = v.ownBlock ∨ v'.ownBlock = some w.heap.size) → (v' = .slice none 0 0 ↔ v = .slice none 0 0 ∧ m = 0) → wpList P ops Q rest (a.put o.dst v') w') : wpList P ops Q (o :: rest) a w :=
  wpList_plain hgd fun _ hK => by
    obtain ⟨i, hi, hz, hsize, hby⟩ := info_parts hinfo
    obtain ⟨v', w', hrun, h2, h3, h4, h5⟩ := run_append_own_at (P := P) w base t o.type e i z size bytes ht hi hz hsize hby hzs hsz v n xs hown ad m c news hl hnews h1 h63 hbytes hB
    unfold Oper.wp execOp
    simp only [ho, resolve, invoke, builtin, Sem.run_bind, Sem.run_pure, Result.andThen_ok, List.map_toArray, List.map_cons, List.map_nil, hs, hx, hrun]
    exact hK _ _ (h v' w' h2 h3 h5 h4)
/-- The same as one step of a region that draws its order. -/
theorem step_app {E : Prop} (hgd : o.guard = none) (s x : Operand) (t : TypeId) (ho : o.op = .call { callee := .builtin .append, args := #[s, x], argTypes := #[t, t] })
    (base : Nat) (e : TypeId) {z : Value} {size bytes : Nat} (ht : P.underlying t = some (.slice e)) (hinfo : (P.info? e).map (fun i => (i.zero, i.size, i.bytes)) = some (some z, size, bytes)) (hzs : z.cells.size = size) (hsz : 0 < size)
    {W : World} {v : Value} {n : Nat} {xs : List Value} (hs : a.eval s = v) (hown : w.ownsRow base e size v n xs) (hb : Below base W w) (hB : base ≤ w.heap.size)
    (ad : Addr) (m c : Nat) (news : List Value) (hx : a.eval x = .slice (some ad) m c) (hl : news.length = m * size) (hnews : ∀ j u, news[j]? = some u → w.cell? (ad.add j) = some u) (h1 : ∀ u ∈ news, u.oneCell' = true)
    (h63 : n + m ≤ maxLen) (hbytes : (n + m) * bytes ≤ 140737488355328)
    (h : ∀ v' w', w'.ownsRow base e size v' (n + m) (xs ++ news) → Below base W w' → base ≤ w'.heap.size → K (a.put o.dst v') w') :
    if Region.wanted o (yielded ops a.tmps) = true then Oper.wp P o a w K Q else E := by
  rw [if_pos (by simp [Region.wanted, hgd])]
  exact wp_app s x t ho base e ht hinfo hzs hsz hs hown hb hB ad m c news hx hl hnews h1 h63 hbytes h
end

/-- The cells of a block that has just been laid. -/
theorem cells_new (w : World) (cs : Array Value) (t : TypeId) : ∀ (j : Nat) (u : Value), cs.toList[j]? = some u → (w.alloc (.cells cs t)).cell? ((⟨w.heap.size, 0, none⟩ : Addr).add j) = some u := by
  intro j u hu
  rw [Addr.add_lit, Nat.zero_add, World.cell?_alloc_mark]
  simpa using hu
theorem cells_newD (w : World) (cs : Array Value) (t : TypeId) : ∀ (j : Nat) (u : Value), cs.toList[j]? = some u → ((w.alloc (.cells cs t)).drew).cell? ((⟨w.heap.size, 0, none⟩ : Addr).add j) = some u := cells_new w cs t
theorem one_u8 (a : Int) : ∀ u ∈ #[Value.int .u8 a].toList, u.oneCell' = true := by
  intro u hu; simp at hu; subst hu; rfl
theorem ones_u8 (a b : Int) : ∀ u ∈ #[Value.int .u8 a, Value.int .u8 b].toList, u.oneCell' = true := by
  intro u hu; simp at hu; rcases hu with rfl | rfl <;> rfl
theorem below_drewN {B : Nat} {a w : World} (h : Below B a w) (n : Nat) : Below B a (w.drewN n) := ⟨h.os, h.tape, h.output, h.size, h.block⟩
theorem own_drewN {w : World} {base e size n : Nat} {v : Value} {xs : List Value} (h : w.ownsRow base e size v n xs) (k : Nat) : (w.drewN k).ownsRow base e size v n xs := h
theorem ret_eq {v v' : Value} (h : v = v') : Ending.returned v = Ending.returned v' := by rw [h]
/-- '[]T{}' owns nothing. -/
theorem own_empty (w : World) (e : TypeId) (size : Nat) : (w.alloc (.cells #[] e)).ownsRow w.heap.size e size (.slice (some ⟨w.heap.size, 0, none⟩) 0 0) 0 [] :=
  World.ownsRow_made w #[] 0 (Nat.le_refl _) (Nat.zero_le _) (by simp)
/-- 'string(b)' of a row of the call's own. -/
theorem run_string_own {P : Program} {w : World} (src dst e : TypeId) (hs : P.underlying src = some (.slice e)) (he : P.underlying e = some (.int .u8)) (hd : P.underlying dst = some .string)
    {base n : Nat} {v : Value} {l : List UInt8} (hown : w.ownsRow base e 1 v n (l.map bv)) : (convert src dst v).run P w = .ok (.string (str l)) w := by
  obtain ⟨hlen, h | ⟨g, cap, cur, rfl, h1, h2, h3, h4, h5, h6⟩⟩ := hown
  · obtain ⟨rfl, rfl⟩ := h
    have hl : l = [] := by simpa using hlen
    subst hl
    rw [run_convert_bytes_string w src dst e none 0 0 hs he hd]
    simp [Conv.bytesToString, Sem.run_pure, str]
    rfl
  · have hn : n = l.length := by simpa using hlen.symm
    subst hn
    refine run_convert_bytes_back w src dst e ⟨g, 0, none⟩ cap l hs he hd (fun j hj => ?_)
    have hc := World.ownsRow.cellAt (w := w) (base := base) (e := e) (size := 1) (g := g) (n := l.length) (cap := cap) (xs := l.map bv) ⟨hlen, .inr ⟨g, cap, cur, rfl, h1, h2, h3, h4, h5, h6⟩⟩ j (by omega)
    rw [Addr.add_lit, Nat.zero_add, hc]
    simp [hj, bv]
theorem infoU8 : (Tryz.prog.info? 5).map (fun i => (i.zero, i.size, i.bytes)) = some (some (.int .u8 0), 1, 1) := by kernel_rfl
theorem own_lit1 {base : Nat} (w : World) (e : TypeId) (u : Value) (h : base ≤ w.heap.size) : (w.alloc (.cells #[u] e)).ownsRow base e 1 (.slice (some ⟨w.heap.size, 0, none⟩) 1 1) 1 [u] :=
  World.ownsRow_lit w #[u] 1 h (by unfold maxLen; omega) (by simp)
theorem own_below {w w1 : World} {base e size n : Nat} {v : Value} {xs : List Value} (h : w.ownsRow base e size v n xs) (hb : Below w.heap.size w w1) : w1.ownsRow base e size v n xs :=
  h.kept (row := none) ⟨hb.os, hb.tape, hb.output, hb.size, fun k hk _ => hb.block k hk⟩ (by
    rcases h.2 with ⟨rfl, _⟩ | ⟨g, c, cur, rfl, _⟩
    · exact .inl rfl
    · exact .inr (by simp [Value.ownBlock]))
theorem own_empty' {w : World} {base : Nat} (e : TypeId) (size : Nat) (h : base ≤ w.heap.size) : (w.alloc (.cells #[] e)).ownsRow base e size (.slice (some ⟨w.heap.size, 0, none⟩) 0 0) 0 [] :=
  World.ownsRow_made w #[] 0 h (Nat.zero_le _) (by simp)
theorem own_below' {w w1 : World} {base e size n : Nat} {v : Value} {xs : List Value} (h : w.ownsRow base e size v n xs) {B : Nat} (hB : w.heap.size ≤ B) (hb : Below B w w1) : w1.ownsRow base e size v n xs := by
  exact h.kept (row := none) ⟨hb.os, hb.tape, hb.output, hb.size, fun k hk _ => hb.block k (Nat.lt_of_lt_of_le hk hB)⟩ (by
    rcases h.2 with ⟨rfl, _⟩ | ⟨g, c, cur, rfl, _⟩
    · exact .inl rfl
    · exact .inr (by simp [Value.ownBlock]))
/-- A row is a slice. -/
theorem own_slice {w : World} {base e size n : Nat} {v : Value} {xs : List Value} (h : w.ownsRow base e size v n xs) : ∃ A c, v = .slice A n c := by
  rcases h.2 with ⟨rfl, h0⟩ | ⟨g, c, cur, rfl, _⟩
  · exact ⟨none, 0, by rw [h0]⟩
  · exact ⟨_, _, rfl⟩
end Go.Proofs.YtbfddabljkoapaaGreatDoor

/-
  A text made of bytes that are written out.
-/
namespace Go.Proofs.YtbfddabljkoapaaGreatDoor
open Go.RowKit
set_option linter.unusedVariables false

/-- A number as a byte. -/
def byteI (x : Int) : UInt8 := UInt8.ofNat x.toNat
/-- 'string([]byte{..})' -/
theorem run_string_lit {P : Program} (src dst e : TypeId) (hs : P.underlying src = some (.slice e)) (he : P.underlying e = some (.int .u8)) (hd : P.underlying dst = some .string) (ns : List Int) (c : Nat) (w : World) :
    (convert src dst (.slice (some ⟨w.heap.size, 0, none⟩) ns.length c)).run P (w.alloc (.cells (ns.map (Value.int .u8)).toArray e)) = .ok (.string (str (ns.map fun n => UInt8.ofNat n.toNat))) (w.alloc (.cells (ns.map (Value.int .u8)).toArray e)) := by
  rw [run_convert_bytes_string _ src dst e _ _ _ hs he hd]
  have hl := run_loadCells_list (P := P) (w.alloc (.cells (ns.map (Value.int .u8)).toArray e)) ⟨w.heap.size, 0, none⟩ (ns.map (Value.int .u8)) (fun j v hj => by
    have := cells_new w (ns.map (Value.int .u8)).toArray e j v (by simpa using hj)
    simpa using this)
  simp only [List.length_map] at hl
  rw [run_bytesToString _ _ _ c ns hl]
  congr 2
  have hf : ∀ (l : List Int) (r : ByteArray), l.foldl (fun r n => r.push (UInt8.ofNat n.toNat)) r = ⟨r.data ++ (l.map fun n => UInt8.ofNat n.toNat).toArray⟩ := by
    intro l
    induction l with
    | nil => intro r; simp
    | cons n l ih => intro r; rw [List.foldl_cons, ih]; simp [ByteArray.push]
  rw [hf]
  simp [str]
theorem lit1 {P : Program} (src dst e : TypeId) (hs : P.underlying src = some (.slice e)) (he : P.underlying e = some (.int .u8)) (hd : P.underlying dst = some .string) : ∀ (w : World) (a : Int),
    (convert src dst (.slice (some ⟨w.heap.size, 0, none⟩) 1 1)).run P (w.alloc (.cells #[.int .u8 a] e)) = .ok (.string (str [byteI a])) (w.alloc (.cells #[.int .u8 a] e)) := fun w a => run_string_lit src dst e hs he hd [a] 1 w
theorem lit2 {P : Program} (src dst e : TypeId) (hs : P.underlying src = some (.slice e)) (he : P.underlying e = some (.int .u8)) (hd : P.underlying dst = some .string) : ∀ (w : World) (a b : Int),
    (convert src dst (.slice (some ⟨w.heap.size, 0, none⟩) 2 2)).run P (w.alloc (.cells #[.int .u8 a, .int .u8 b] e)) = .ok (.string (str [byteI a, byteI b])) (w.alloc (.cells #[.int .u8 a, .int .u8 b] e)) := fun w a b => run_string_lit src dst e hs he hd [a, b] 2 w
theorem lit3 {P : Program} (src dst e : TypeId) (hs : P.underlying src = some (.slice e)) (he : P.underlying e = some (.int .u8)) (hd : P.underlying dst = some .string) : ∀ (w : World) (a b c : Int),
    (convert src dst (.slice (some ⟨w.heap.size, 0, none⟩) 3 3)).run P (w.alloc (.cells #[.int .u8 a, .int .u8 b, .int .u8 c] e)) = .ok (.string (str [byteI a, byteI b, byteI c])) (w.alloc (.cells #[.int .u8 a, .int .u8 b, .int .u8 c] e)) := fun w a b c => run_string_lit src dst e hs he hd [a, b, c] 3 w
theorem lit4 {P : Program} (src dst e : TypeId) (hs : P.underlying src = some (.slice e)) (he : P.underlying e = some (.int .u8)) (hd : P.underlying dst = some .string) : ∀ (w : World) (a b c d : Int),
    (convert src dst (.slice (some ⟨w.heap.size, 0, none⟩) 4 4)).run P (w.alloc (.cells #[.int .u8 a, .int .u8 b, .int .u8 c, .int .u8 d] e)) = .ok (.string (str [byteI a, byteI b, byteI c, byteI d])) (w.alloc (.cells #[.int .u8 a, .int .u8 b, .int .u8 c, .int .u8 d] e)) := fun w a b c d => run_string_lit src dst e hs he hd [a, b, c, d] 4 w
theorem str_len (l : List UInt8) : (str l).size = l.length := by simp [str, ByteArray.size]
end Go.Proofs.YtbfddabljkoapaaGreatDoor

/-
  The bytes of a code point, plainly.
-/
namespace Go.Proofs.YtbfddabljkoapaaGreatDoor
open Go.RowKit
set_option linter.unusedVariables false

/-- A number is a code point. -/
def isSg (n : Int) : Bool := decide ((0 ≤ n ∧ n < 55296) ∨ (57343 < n ∧ n ≤ 1114111))
/-- What PutSign hands back. -/
def signB (n : Int) : ByteArray := if isSg n then Utf8.encode n else ⟨#[]⟩

theorem ofInt_i64 (a : Nat) (ha : a < 9223372036854775808) : (BitVec.ofInt 64 (a : Int)).toNat = a := by
  rw [BitVec.ofInt_natCast, BitVec.toNat_ofNat]; omega
theorem and63 (n : Nat) (h : n < 9223372036854775808) : bits .and .i64 (n : Int) 63 = ((n % 64 : Nat) : Int) := by
  have h1 := ofInt_i64 n h
  have h2 := ofInt_i64 63 (by omega)
  show IntKind.i64.wrap ((BitVec.ofInt 64 (n : Int) &&& BitVec.ofInt 64 ((63 : Nat) : Int)).toNat : Int) = _
  rw [BitVec.toNat_and, h1, h2, Nat.and_two_pow_sub_one_eq_mod n 6, IntKind.wrap_i64]
  omega
theorem and63d (n d : Nat) (h : n < 9223372036854775808) : bits .and .i64 ((n : Int) / (d : Int)) 63 = ((n / d % 64 : Nat) : Int) := by
  have : n / d ≤ n := Nat.div_le_self _ _
  rw [show (n : Int) / (d : Int) = ((n / d : Nat) : Int) by simp]
  exact and63 _ (by omega)

theorem valid_of (n : Nat) (h : n < 55296 ∨ (57343 < n ∧ n < 1114112)) : Utf8.valid (n : Int) = true := by
  unfold Utf8.valid; simp; omega
theorem enc1 (n : Nat) (h : n < 128) : str [byteI n] = Utf8.encode (n : Int) := by
  have hv := valid_of n (by omega)
  unfold Utf8.encode byteI
  simp only [hv, if_true, Int.toNat_natCast]
  rw [if_pos h]
  rfl
theorem enc2 (n : Nat) (h : 128 ≤ n ∧ n < 2048) : str [byteI (192 + (n : Int) / 64), byteI (128 + (n : Int) % 64)] = Utf8.encode (n : Int) := by
  have hv := valid_of n (by omega)
  unfold Utf8.encode byteI
  simp only [hv, if_true, Int.toNat_natCast]
  rw [if_neg (by omega), if_pos (by omega), show (192 + (n : Int) / 64).toNat = 192 + n / 64 by omega, show (128 + (n : Int) % 64).toNat = 128 + n % 64 by omega]
  rfl
theorem enc3 (n : Nat) (h : (2048 ≤ n ∧ n < 55296) ∨ (57343 < n ∧ n < 65536)) : str [byteI (224 + (n : Int) / 4096), byteI (128 + (n : Int) / 64 % 64), byteI (128 + (n : Int) % 64)] = Utf8.encode (n : Int) := by
  have hv := valid_of n (by omega)
  unfold Utf8.encode byteI
  simp only [hv, if_true, Int.toNat_natCast]
  rw [if_neg (by omega), if_neg (by omega), if_pos (by omega), show (224 + (n : Int) / 4096).toNat = 224 + n / 4096 by omega, show (128 + (n : Int) % 64).toNat = 128 + n % 64 by omega, show (128 + (n : Int) / 64 % 64).toNat = 128 + n / 64 % 64 by omega]
  rfl
theorem enc4 (n : Nat) (h : 65536 ≤ n ∧ n < 1114112) : str [byteI (240 + (n : Int) / 262144), byteI (128 + (n : Int) / 4096 % 64), byteI (128 + (n : Int) / 64 % 64), byteI (128 + (n : Int) % 64)] = Utf8.encode (n : Int) := by
  have hv := valid_of n (by omega)
  unfold Utf8.encode byteI
  simp only [hv, if_true, Int.toNat_natCast]
  rw [if_neg (by omega), if_neg (by omega), if_neg (by omega), show (240 + (n : Int) / 262144).toNat = 240 + n / 262144 by omega, show (128 + (n : Int) / 4096 % 64).toNat = 128 + n / 4096 % 64 by omega, show (128 + (n : Int) % 64).toNat = 128 + n % 64 by omega, show (128 + (n : Int) / 64 % 64).toNat = 128 + n / 64 % 64 by omega]
  rfl
end Go.Proofs.YtbfddabljkoapaaGreatDoor

/-
  A piece of a text; plain.
-/
namespace Go.Proofs.YtbfddabljkoapaaGreatDoor
open Go.RowKit

/-- The first bytes of a piece. -/
def piece (s : ByteArray) (i n : Nat) : List UInt8 := (s.data.toList.drop i).take n
theorem piece_succ (s : ByteArray) (i n : Nat) (h : i + n < s.size) : piece s i (n + 1) = piece s i n ++ [s[i + n]] := by
  have hl : n < (s.data.toList.drop i).length := by simp; have : s.data.size = s.size := rfl; omega
  unfold piece
  rw [List.take_succ_eq_append_getElem hl, List.getElem_drop]
  rfl
theorem piece_len (s : ByteArray) (i n : Nat) (h : i + n ≤ s.size) : (piece s i n).length = n := by
  unfold piece
  have : s.data.size = s.size := rfl
  simp; omega
end Go.Proofs.YtbfddabljkoapaaGreatDoor

/-
  GetSign, plainly: the first byte's say, the bytes behind it, and the model's own decoder.
-/
namespace Go.Proofs.YtbfddabljkoapaaGreatDoor
open Go.RowKit
set_option linter.unusedVariables false

/-- The bytes of a sign, as numbers. -/
def encN (n : Nat) : List Nat :=
  if n < 128 then [n] else if n < 2048 then [192 + n / 64, 128 + n % 64] else if n < 65536 then [224 + n / 4096, 128 + n / 64 % 64, 128 + n % 64]
  else [240 + n / 262144, 128 + n / 4096 % 64, 128 + n / 64 % 64, 128 + n % 64]
/-- The bytes of PutSign's answer, as numbers. -/
def sgN (n : Nat) : List Nat := if n < 55296 ∨ (57343 < n ∧ n < 1114112) then encN n else []
theorem sgN_eq (n : Nat) : (signB (n : Int)).data.toList.map UInt8.toNat = sgN n := by
  unfold signB sgN
  by_cases h : n < 55296 ∨ (57343 < n ∧ n < 1114112)
  · have hv := valid_of n h
    rw [if_pos h, if_pos (by unfold isSg; simp; omega)]
    unfold Utf8.encode encN
    simp only [hv, if_true, Int.toNat_natCast]
    by_cases h1 : n < 128
    · rw [if_pos h1, if_pos h1]; simp; omega
    · rw [if_neg h1, if_neg h1]
      by_cases h2 : n < 2048
      · rw [if_pos h2, if_pos h2]; simp; omega
      · rw [if_neg h2, if_neg h2]
        by_cases h3 : n < 65536
        · rw [if_pos h3, if_pos h3]; simp; omega
        · rw [if_neg h3, if_neg h3]; simp; omega
  · rw [if_neg h, if_neg (by unfold isSg; simp; omega)]
    rfl
theorem get_get! (s : ByteArray) (i : Nat) (h : i < s.size) : s[i] = s.get! i := by
  cases s with
  | mk d => exact (getElem!_pos d i h).symm
/-- A piece's bytes, as numbers. -/
def pcN (s : ByteArray) (i m : Nat) : List Nat := (List.range m).map fun k => (s.get! (i + k)).toNat
theorem pcN_eq (s : ByteArray) (i : Nat) : ∀ m, i + m ≤ s.size → (piece s i m).map UInt8.toNat = pcN s i m
  | 0, _ => by simp [piece, pcN]
  | m + 1, h => by
    rw [piece_succ s i m (by omega), List.map_append, pcN_eq s i m (by omega), get_get! _ _ (by omega)]
    simp [pcN, List.range_succ]
theorem extract_piece (s : ByteArray) (i m : Nat) : (s.extract i (i + m)).data.toList = piece s i m := by
  unfold piece
  simp [ByteArray.data_extract]
theorem ba_ext {a b : ByteArray} (h : a.data.toList = b.data.toList) : a = b := by
  cases a; cases b; congr 1; exact Array.toList_inj.1 h
theorem map_toNat_inj {a b : List UInt8} (h : a.map UInt8.toNat = b.map UInt8.toNat) : a = b :=
  (List.map_inj_right (fun x y h => UInt8.toNat_inj.1 h)).1 h
theorem sg_cmp (s : ByteArray) (i m n : Nat) (h : i + m ≤ s.size) : signB (n : Int) = s.extract i (i + m) ↔ sgN n = pcN s i m := by
  rw [← sgN_eq, ← pcN_eq s i m h, ← extract_piece]
  constructor
  · intro h; rw [h]
  · intro h; exact ba_ext (map_toNat_inj h)

/-- GetSign reads a sign at a place. -/
def gsOk (s : ByteArray) (i : Int) : Prop := 0 ≤ i ∧ i < s.size ∧ ¬ ((Utf8.decode s i.toNat).1 = 65533 ∧ (Utf8.decode s i.toNat).2 < 3)
instance (s : ByteArray) (i : Int) : Decidable (gsOk s i) := by unfold gsOk; infer_instance
/-- What GetSign hands back. -/
def gsN (s : ByteArray) (i : Int) : Int := if gsOk s i then (Utf8.decode s i.toNat).1 else -1
def gsE (s : ByteArray) (i : Int) : Int := if gsOk s i then i + (Utf8.decode s i.toNat).2 else -1

/-- How many bytes the first one says that there are, and what it holds. -/
def manyN (b : Nat) : Nat := if b < 128 then 1 else if 192 ≤ b ∧ b ≤ 223 then 2 else if 224 ≤ b ∧ b ≤ 239 then 3 else if 240 ≤ b ∧ b ≤ 247 then 4 else 0
def headN (b : Nat) : Nat := if b < 128 then b else if 192 ≤ b ∧ b ≤ 223 then b % 32 else if 224 ≤ b ∧ b ≤ 239 then b % 16 else if 240 ≤ b ∧ b ≤ 247 then b % 8 else 0
/-- What has been read behind k more bytes. -/
def accN (s : ByteArray) (i : Nat) : Nat → Nat
  | 0 => headN (s.get! i).toNat
  | k + 1 => accN s i k * 64 + (s.get! (i + (k + 1))).toNat % 64
theorem manyN_le (b : Nat) : manyN b ≤ 4 := by unfold manyN; repeat' split
                                               all_goals omega
theorem headN_lt (b : Nat) : headN b < 128 := by unfold headN; repeat' split
                                                 all_goals omega
theorem accN_lt (s : ByteArray) (i : Nat) : ∀ k, k ≤ 3 → accN s i k < 33554432 := by
  have h0 := headN_lt (s.get! i).toNat
  intro k hk
  rcases (show k = 0 ∨ k = 1 ∨ k = 2 ∨ k = 3 by omega) with rfl | rfl | rfl | rfl <;> simp only [accN] <;> omega

set_option maxRecDepth 100000 in
set_option maxHeartbeats 4000000 in
theorem sgn_none (s : ByteArray) (i : Nat) (h : manyN (s.get! i).toNat = 0 ∨ s.size < i + manyN (s.get! i).toNat) : ¬ gsOk s (i : Int) := by
  unfold gsOk
  rintro ⟨_, h2, h3⟩
  apply h3
  rw [Int.toNat_natCast, Lib.decode_at]
  have b0 := (s.get! i).toNat_lt
  revert h
  generalize (s.get! i).toNat = b0 at *
  generalize (s.get! (i + 1)).toNat = b1 at *
  generalize (s.get! (i + 2)).toNat = b2 at *
  generalize (s.get! (i + 3)).toNat = b3 at *
  intro h
  unfold manyN at h
  unfold Lib.decodeN
  repeat' split
  all_goals first | (exact ⟨rfl, by omega⟩) | (exfalso; revert h; repeat' split
                                               all_goals omega)
set_option maxRecDepth 100000 in
set_option maxHeartbeats 4000000 in
theorem sgn_pure (z b0 b1 b2 b3 m : Nat) (hb0 : b0 < 256) (hb1 : b1 < 256) (hb2 : b2 < 256) (hb3 : b3 < 256) (hm : m = manyN b0) (h0 : 0 < m) (hz : m ≤ z) (N : Nat) (L : List Nat)
    (hN : (m = 1 ∧ N = headN b0 ∧ L = [b0]) ∨ (m = 2 ∧ N = headN b0 * 64 + b1 % 64 ∧ L = [b0, b1]) ∨ (m = 3 ∧ N = (headN b0 * 64 + b1 % 64) * 64 + b2 % 64 ∧ L = [b0, b1, b2]) ∨
      (m = 4 ∧ N = ((headN b0 * 64 + b1 % 64) * 64 + b2 % 64) * 64 + b3 % 64 ∧ L = [b0, b1, b2, b3])) :
    (¬ ((Lib.decodeN z b0 b1 b2 b3).1 = 65533 ∧ (Lib.decodeN z b0 b1 b2 b3).2 < 3) ↔ sgN N = L) ∧ (¬ ((Lib.decodeN z b0 b1 b2 b3).1 = 65533 ∧ (Lib.decodeN z b0 b1 b2 b3).2 < 3) → Lib.decodeN z b0 b1 b2 b3 = (N, m)) := by
  have hc : (b0 < 128 ∧ m = 1 ∧ headN b0 = b0) ∨ ((192 ≤ b0 ∧ b0 ≤ 223) ∧ m = 2 ∧ headN b0 = b0 % 32) ∨ ((224 ≤ b0 ∧ b0 ≤ 239) ∧ m = 3 ∧ headN b0 = b0 % 16) ∨ ((240 ≤ b0 ∧ b0 ≤ 247) ∧ m = 4 ∧ headN b0 = b0 % 8) := by
    subst hm
    revert h0
    unfold manyN headN
    repeat' split
    all_goals omega
  clear hm
  rcases hc with ⟨hb, rfl, hh⟩ | ⟨hb, rfl, hh⟩ | ⟨hb, rfl, hh⟩ | ⟨hb, rfl, hh⟩
  · obtain ⟨rfl, rfl⟩ : N = b0 ∧ L = [b0] := by
      rcases hN with ⟨h, h1, h2⟩ | ⟨h, _⟩ | ⟨h, _⟩ | ⟨h, _⟩
      · exact ⟨h1.trans hh, h2⟩
      all_goals omega
    rw [Lib.decodeN, if_pos hb]
    unfold sgN encN
    rw [if_pos (by omega), if_pos hb]
    simp
    omega
  · obtain ⟨hNN, rfl⟩ : N = b0 % 32 * 64 + b1 % 64 ∧ L = [b0, b1] := by
      rcases hN with ⟨h, _⟩ | ⟨h, h1, h2⟩ | ⟨h, _⟩ | ⟨h, _⟩
      · omega
      · exact ⟨by rw [h1, hh], h2⟩
      all_goals omega
    have hNl : N < 2048 := by omega
    unfold sgN encN
    rw [if_pos (by omega)]
    by_cases h1 : b1 / 64 = 2
    · by_cases h2 : 128 ≤ N
      · rw [Lib.decodeN, if_neg (by omega), if_pos (by omega), ← hNN, if_pos h2, if_neg (by omega), if_pos hNl]
        simp
        omega
      · rw [Lib.decodeN, if_neg (by omega), if_pos (by omega), ← hNN, if_neg h2, if_pos (by omega)]
        simp
    · rw [Lib.decodeN, if_neg (by omega), if_neg (by omega), if_neg (by omega), if_neg (by omega)]
      by_cases h2 : 128 ≤ N
      · rw [if_neg (by omega), if_pos hNl]
        simp
        omega
      · rw [if_pos (by omega)]
        simp
  · obtain ⟨hNN, rfl⟩ : N = b0 % 16 * 4096 + b1 % 64 * 64 + b2 % 64 ∧ L = [b0, b1, b2] := by
      rcases hN with ⟨h, _⟩ | ⟨h, _⟩ | ⟨h, h1, h2⟩ | ⟨h, _⟩
      · omega
      · omega
      · exact ⟨by rw [h1, hh]; omega, h2⟩
      · omega
    have hNl : N < 65536 := by omega
    by_cases h1 : b1 / 64 = 2 ∧ b2 / 64 = 2
    · by_cases h2 : 2048 ≤ N ∧ (N < 55296 ∨ (57344 ≤ N ∧ N ≤ 1114111))
      · rw [Lib.decodeN, if_neg (by omega), if_neg (by omega), if_pos (by omega), ← hNN, if_pos h2]
        unfold sgN encN
        rw [if_pos (by omega), if_neg (by omega), if_neg (by omega), if_pos hNl]
        simp
        omega
      · rw [Lib.decodeN, if_neg (by omega), if_neg (by omega), if_pos (by omega), ← hNN, if_neg h2]
        unfold sgN encN
        by_cases h3 : N < 55296 ∨ (57343 < N ∧ N < 1114112)
        · rw [if_pos h3]
          by_cases h4 : N < 128
          · rw [if_pos h4]; simp
          · rw [if_neg h4, if_pos (by omega)]; simp
        · rw [if_neg h3]; simp
    · rw [Lib.decodeN, if_neg (by omega), if_neg (by omega), if_neg (by omega), if_neg (by omega)]
      unfold sgN encN
      by_cases h3 : N < 55296 ∨ (57343 < N ∧ N < 1114112)
      · rw [if_pos h3]
        by_cases h4 : N < 128
        · rw [if_pos h4]; simp
        · rw [if_neg h4]
          by_cases h5 : N < 2048
          · rw [if_pos h5]; simp
          · rw [if_neg h5, if_pos hNl]; simp; omega
      · rw [if_neg h3]; simp
  · obtain ⟨hNN, rfl⟩ : N = b0 % 8 * 262144 + b1 % 64 * 4096 + b2 % 64 * 64 + b3 % 64 ∧ L = [b0, b1, b2, b3] := by
      rcases hN with ⟨h, _⟩ | ⟨h, _⟩ | ⟨h, _⟩ | ⟨h, h1, h2⟩
      · omega
      · omega
      · omega
      · exact ⟨by rw [h1, hh]; omega, h2⟩
    by_cases h1 : b1 / 64 = 2 ∧ b2 / 64 = 2 ∧ b3 / 64 = 2
    · by_cases h2 : 65536 ≤ N ∧ (N < 55296 ∨ (57344 ≤ N ∧ N ≤ 1114111))
      · rw [Lib.decodeN, if_neg (by omega), if_neg (by omega), if_neg (by omega), if_pos (by omega), ← hNN, if_pos h2]
        unfold sgN encN
        rw [if_pos (by omega), if_neg (by omega), if_neg (by omega), if_neg (by omega)]
        simp
        omega
      · rw [Lib.decodeN, if_neg (by omega), if_neg (by omega), if_neg (by omega), if_pos (by omega), ← hNN, if_neg h2]
        unfold sgN encN
        by_cases h3 : N < 55296 ∨ (57343 < N ∧ N < 1114112)
        · rw [if_pos h3]
          by_cases h4 : N < 128
          · rw [if_pos h4]; simp
          · rw [if_neg h4]
            by_cases h5 : N < 2048
            · rw [if_pos h5]; simp
            · rw [if_neg h5, if_pos (by omega)]; simp
        · rw [if_neg h3]; simp
    · rw [Lib.decodeN, if_neg (by omega), if_neg (by omega), if_neg (by omega), if_neg (by omega)]
      unfold sgN encN
      by_cases h3 : N < 55296 ∨ (57343 < N ∧ N < 1114112)
      · rw [if_pos h3]
        by_cases h4 : N < 128
        · rw [if_pos h4]; simp
        · rw [if_neg h4]
          by_cases h5 : N < 2048
          · rw [if_pos h5]; simp
          · rw [if_neg h5]
            by_cases h6 : N < 65536
            · rw [if_pos h6]; simp
            · rw [if_neg h6]; simp; omega
      · rw [if_neg h3]; simp
theorem sgn_some (s : ByteArray) (i m : Nat) (hm : m = manyN (s.get! i).toNat) (h0 : 0 < m) (hle : i + m ≤ s.size) :
    (gsOk s (i : Int) ↔ sgN (accN s i (m - 1)) = pcN s i m) ∧ (gsOk s (i : Int) → Utf8.decode s i = (accN s i (m - 1), m)) := by
  have hi : (0 : Int) ≤ i ∧ (i : Int) < s.size := by omega
  unfold gsOk
  rw [Int.toNat_natCast, Lib.decode_at]
  simp only [hi, true_and]
  have h4 := manyN_le (s.get! i).toNat
  refine sgn_pure (s.size - i) _ _ _ _ m ((s.get! i).toNat_lt) ((s.get! _).toNat_lt) ((s.get! _).toNat_lt) ((s.get! _).toNat_lt) hm h0 (by omega) _ _ ?_
  rcases (show m = 1 ∨ m = 2 ∨ m = 3 ∨ m = 4 by omega) with rfl | rfl | rfl | rfl
  · exact .inl ⟨rfl, rfl, by simp [pcN, List.range_succ]⟩
  · exact .inr (.inl ⟨rfl, rfl, by simp [pcN, List.range_succ]⟩)
  · exact .inr (.inr (.inl ⟨rfl, rfl, by simp [pcN, List.range_succ]⟩))
  · exact .inr (.inr (.inr ⟨rfl, rfl, by simp [pcN, List.range_succ]⟩))
end Go.Proofs.YtbfddabljkoapaaGreatDoor

/-
  The signs of a text, plainly: one by one from a place on; a text that is right.
-/
namespace Go.Proofs.YtbfddabljkoapaaGreatDoor
open Go.RowKit
set_option linter.unusedVariables false

/-- The signs from a place on, none where there is a wrong one. -/
def restG (s : ByteArray) : Nat → Nat → Option (List Nat)
  | 0, _ => some []
  | f + 1, i => if i < s.size then (if gsOk s (i : Int) then (restG s f (i + (Utf8.decode s i).2)).map ((Utf8.decode s i).1 :: ·) else none) else some []
def restF (s : ByteArray) (i : Nat) : Option (List Nat) := restG s (s.size - i) i
theorem dec_pos (s : ByteArray) (i : Nat) : 1 ≤ (Utf8.decode s i).2 := Lib.width_pos s i
theorem restG_fuel (s : ByteArray) : ∀ f g i, s.size - i ≤ f → s.size - i ≤ g → restG s f i = restG s g i
  | 0, 0, _, _, _ => rfl
  | 0, g + 1, i, h, _ => by rw [restG, restG, if_neg (by omega)]
  | f + 1, 0, i, _, h => by rw [restG, restG, if_neg (by omega)]
  | f + 1, g + 1, i, h1, h2 => by
    rw [restG, restG]
    by_cases hi : i < s.size
    · have := dec_pos s i
      rw [if_pos hi, if_pos hi, restG_fuel s f g _ (by omega) (by omega)]
    · rw [if_neg hi, if_neg hi]
theorem restF_end (s : ByteArray) (i : Nat) (h : s.size ≤ i) : restF s i = some [] := by
  unfold restF
  rw [show s.size - i = 0 by omega]
  rfl
theorem restF_ok (s : ByteArray) (i : Nat) (h : i < s.size) (hok : gsOk s (i : Int)) : restF s i = (restF s (i + (Utf8.decode s i).2)).map ((Utf8.decode s i).1 :: ·) := by
  have := dec_pos s i
  unfold restF
  obtain ⟨f, hf⟩ : ∃ f, s.size - i = f + 1 := ⟨s.size - i - 1, by omega⟩
  rw [hf, restG, if_pos h, if_pos hok, restG_fuel s f _ _ (by omega) (Nat.le_refl _)]
theorem restF_bad (s : ByteArray) (i : Nat) (h : i < s.size) (hok : ¬ gsOk s (i : Int)) : restF s i = none := by
  unfold restF
  obtain ⟨f, hf⟩ : ∃ f, s.size - i = f + 1 := ⟨s.size - i - 1, by omega⟩
  rw [hf, restG, if_pos h, if_neg hok]
/-- A text is right. -/
def textOk (s : ByteArray) : Bool := (restF s 0).isSome
/-- The signs of a text, none if it isn't right. -/
def signsL (s : ByteArray) : List Nat := (restF s 0).getD []

theorem dec_65533 (s : ByteArray) (i : Nat) : ((Utf8.decode s i).1 = 65533 ∧ (Utf8.decode s i).2 < 3) ↔ ((Utf8.decode s i).1 = 65533 ∧ (Utf8.decode s i).2 = 1) := by
  rw [Lib.decode_at]
  have h0 := (s.get! i).toNat_lt
  have h1 := (s.get! (i + 1)).toNat_lt
  generalize (s.get! i).toNat = b0 at *
  generalize (s.get! (i + 1)).toNat = b1 at *
  unfold Lib.decodeN
  repeat' split
  all_goals simp
  all_goals omega
theorem gsOk_nat (s : ByteArray) (i : Nat) (h : i < s.size) : gsOk s (i : Int) ↔ ¬ ((Utf8.decode s i).1 = 65533 ∧ (Utf8.decode s i).2 = 1) := by
  unfold gsOk
  rw [Int.toNat_natCast, ← dec_65533]
  constructor
  · exact fun h => h.2.2
  · exact fun h => ⟨by omega, by omega, h⟩
theorem valid_rest (s : ByteArray) : ∀ n i, s.size - i ≤ n → Lib.validD (s.data.toList.drop i) = (restF s i).isSome := by
  have hl : s.data.toList.length = s.size := rfl
  intro n
  induction n with
  | zero =>
    intro i h
    rw [restF_end s i (by omega), List.drop_eq_nil_of_le (by omega)]
    rfl
  | succ n ih =>
    intro i h
    by_cases hi : i < s.size
    · have hne : s.data.toList.drop i ≠ [] := by
        intro h
        have := congrArg List.length h
        simp at this
        have e : s.data.size = s.size := rfl
        omega
      have hp := dec_pos s i
      rw [Lib.validD_step _ hne, Lib.decodeL_drop, List.drop_drop]
      by_cases hok : gsOk s (i : Int)
      · rw [if_neg ((gsOk_nat s i hi).1 hok), restF_ok s i hi hok, ih _ (by omega)]
        simp
      · rw [if_pos (by
          have := hok
          rw [gsOk_nat s i hi] at this
          exact Classical.not_not.1 this), restF_bad s i hi hok]
        rfl
    · rw [restF_end s i (by omega), List.drop_eq_nil_of_le (by omega)]
      rfl
theorem valid_textOk (s : ByteArray) : Lib.validD s.data.toList = textOk s := by
  have := valid_rest s _ 0 (Nat.le_refl _)
  simpa [textOk] using this
theorem textOk_signs (s : ByteArray) : textOk s = (decide (s.size = 0) || decide (0 < (signsL s).length)) := by
  unfold textOk signsL
  by_cases h0 : s.size = 0
  · rw [restF_end s 0 (by omega)]; simp [h0]
  · by_cases hok : gsOk s ((0 : Nat) : Int)
    · rw [restF_ok s 0 (by omega) hok]
      cases restF s (0 + (Utf8.decode s 0).2) <;> simp [h0]
    · rw [restF_bad s 0 (by omega) hok]; simp [h0]

/-- What has been read ahead of a place. -/
def ReadTo (s : ByteArray) (i : Nat) (pre : List Nat) : Prop := i ≤ s.size ∧ pre.length ≤ i ∧ restF s 0 = (restF s i).map (pre ++ ·)
theorem readTo_zero (s : ByteArray) : ReadTo s 0 [] := ⟨Nat.zero_le _, Nat.le_refl _, by cases restF s 0 <;> simp⟩
theorem dec_le (s : ByteArray) (i : Nat) (h : i < s.size) : i + (Utf8.decode s i).2 ≤ s.size := by
  rw [Lib.decode_at]
  unfold Lib.decodeN
  repeat' split
  all_goals simp
  all_goals omega
theorem readTo_next {s : ByteArray} {i : Nat} {pre : List Nat} (h : ReadTo s i pre) (hi : i < s.size) (hok : gsOk s (i : Int)) : ReadTo s (i + (Utf8.decode s i).2) (pre ++ [(Utf8.decode s i).1]) := by
  have hp := dec_pos s i
  refine ⟨dec_le s i hi, by have := h.2.1; simp; omega, ?_⟩
  rw [h.2.2, restF_ok s i hi hok]
  cases restF s (i + (Utf8.decode s i).2) <;> simp
theorem readTo_bad {s : ByteArray} {i : Nat} {pre : List Nat} (h : ReadTo s i pre) (hi : i < s.size) (hok : ¬ gsOk s (i : Int)) : signsL s = [] ∧ textOk s = false := by
  unfold signsL textOk
  rw [h.2.2, restF_bad s i hi hok]
  exact ⟨rfl, rfl⟩
theorem readTo_end {s : ByteArray} {i : Nat} {pre : List Nat} (h : ReadTo s i pre) (hi : ¬ i < s.size) : signsL s = pre ∧ textOk s = true := by
  unfold signsL textOk
  rw [h.2.2, restF_end s i (by omega)]
  simp
theorem signsL_len (s : ByteArray) : (signsL s).length ≤ s.size := by
  have : ∀ f i l, restG s f i = some l → l.length ≤ f := by
    intro f
    induction f with
    | zero => intro i l h; simp [restG] at h; subst h; simp
    | succ f ih =>
      intro i l h
      rw [restG] at h
      split at h
      · split at h
        · cases hr : restG s f (i + (Utf8.decode s i).2) with
          | none => rw [hr] at h; simp at h
          | some l' =>
            rw [hr] at h
            simp at h
            subst h
            have := ih _ _ hr
            simp; omega
        · cases h
      · simp at h; subst h; simp
  unfold signsL
  cases h : restF s 0 with
  | none => simp
  | some l => have := this _ _ _ h; simpa using this
end Go.Proofs.YtbfddabljkoapaaGreatDoor

/-
  Unquote, plainly: what a backslash begins, and what is read from a place on.
-/
namespace Go.Proofs.YtbfddabljkoapaaGreatDoor
open Go.RowKit
set_option linter.unusedVariables false

/-- The number of a hexadecimal digit, great or small, or -1. -/
def hxV (c : Nat) : Int := if 48 ≤ c ∧ c ≤ 57 then (c : Int) - 48 else if 97 ≤ c ∧ c ≤ 102 then (c : Int) - 87 else if 65 ≤ c ∧ c ≤ 70 then (c : Int) - 55 else -1
theorem hxV_range (c : Nat) : -1 ≤ hxV c ∧ hxV c ≤ 15 := by
  unfold hxV
  repeat' split
  all_goals omega
/-- All of j bytes from a place on are hexadecimal digits. -/
def hexTo (s : ByteArray) (i j : Nat) : Prop := ∀ k, k < j → 0 ≤ hxV (s.get! (i + k)).toNat
instance (s : ByteArray) (i j : Nat) : Decidable (hexTo s i j) := by unfold hexTo; infer_instance
/-- Their number. -/
def accH (s : ByteArray) (i : Nat) : Nat → Int
  | 0 => 0
  | j + 1 => 16 * accH s i j + hxV (s.get! (i + j)).toNat
theorem accH_range (s : ByteArray) (i : Nat) : ∀ j, j ≤ 4 → hexTo s i j → 0 ≤ accH s i j ∧ accH s i j < 16 ^ j
  | 0, _, _ => by simp [accH]
  | j + 1, hj, h => by
    have ih := accH_range s i j (by omega) (fun k hk => h k (by omega))
    have h1 := h j (by omega)
    have h2 := hxV_range (s.get! (i + j)).toNat
    rw [Int.pow_succ]
    unfold accH
    omega
/-- The number of four digits from a place on, or -1. -/
def unitZ (s : ByteArray) (i : Nat) : Int := if i + 4 ≤ s.size ∧ hexTo s i 4 then accH s i 4 else -1
theorem unitZ_range (s : ByteArray) (i : Nat) : -1 ≤ unitZ s i ∧ unitZ s i < 65536 := by
  unfold unitZ
  split
  · rename_i h
    have := accH_range s i 4 (by omega) h.2
    omega
  · omega
theorem unitZ_bad {s : ByteArray} {i j : Nat} (hj : j < 4) (h : hxV (s.get! (i + j)).toNat < 0) : unitZ s i = -1 := by
  unfold unitZ
  rw [if_neg]
  intro h2
  have := h2.2 j hj
  omega

/-- The byte that a letter behind a backslash stands for, 0 if it is none. -/
def longOf (c : Nat) : Nat := if c = 34 then 34 else if c = 92 then 92 else if c = 98 then 8 else if c = 102 then 12 else if c = 110 then 10 else if c = 114 then 13 else if c = 116 then 9 else if c = 47 then 47 else 0
theorem longOf_lt (c : Nat) : longOf c < 128 := by unfold longOf; repeat' split
                                                   all_goals omega
/-- A number that two units give. -/
def pairZ (n m : Int) : Int := 65536 + 1024 * (n - 55296) + m - 56320
/-- What a backslash at a place begins: the text, and the place behind; none if it begins nothing. -/
def escAt (s : ByteArray) (i : Nat) : Option (ByteArray × Nat) :=
  if s.size ≤ i + 1 then none
  else if longOf (s.get! (i + 1)).toNat ≠ 0 then some (str [UInt8.ofNat (longOf (s.get! (i + 1)).toNat)], i + 2)
  else if (s.get! (i + 1)).toNat = 117 then
    if 55296 ≤ unitZ s (i + 2) ∧ unitZ s (i + 2) ≤ 56319 then
      if i + 8 ≤ s.size ∧ (s.get! (i + 6)).toNat = 92 ∧ (s.get! (i + 7)).toNat = 117 ∧ 56320 ≤ unitZ s (i + 8) ∧ unitZ s (i + 8) ≤ 57343 then some (signB (pairZ (unitZ s (i + 2)) (unitZ s (i + 8))), i + 12) else none
    else if isSg (unitZ s (i + 2)) then some (signB (unitZ s (i + 2)), i + 6) else none
  else none
theorem unitZ_room {s : ByteArray} {i : Nat} (h : 0 ≤ unitZ s i) : i + 4 ≤ s.size := by
  unfold unitZ at h
  split at h
  · rename_i h2; exact h2.1
  · omega
theorem isSg_pos {n : Int} (h : isSg n = true) : 0 ≤ n := by unfold isSg at h; simp at h; omega
theorem escAt_place {s t : ByteArray} {i n : Nat} (h : escAt s i = some (t, n)) : i + 2 ≤ n ∧ n ≤ s.size := by
  unfold escAt at h
  split at h
  · cases h
  · split at h
    · injection h with h; injection h with _ h; omega
    · split at h
      · split at h
        · split at h
          · rename_i h2
            injection h with h; injection h with _ h
            have := unitZ_room (s := s) (i := i + 8) (by omega)
            omega
          · cases h
        · split at h
          · rename_i h2
            injection h with h; injection h with _ h
            have := unitZ_room (isSg_pos h2)
            omega
          · cases h
      · cases h
theorem signB_len (n : Int) : (signB n).size ≤ 4 := by
  by_cases h : isSg n = true
  · obtain ⟨k, rfl⟩ := Int.eq_ofNat_of_zero_le (isSg_pos h)
    have h1 := congrArg List.length (sgN_eq k)
    rw [List.length_map] at h1
    have h2 : (signB (k : Int)).data.toList.length = (signB (k : Int)).size := (Lib.size_eq _).symm
    rw [h2] at h1
    rw [h1]
    unfold sgN encN
    split
    · split
      · exact Nat.le_of_ble_eq_true rfl
      · split
        · exact Nat.le_of_ble_eq_true rfl
        · split
          · exact Nat.le_of_ble_eq_true rfl
          · exact Nat.le_of_ble_eq_true rfl
    · exact Nat.zero_le 4
  · unfold signB; rw [if_neg h]; exact Nat.zero_le 4
theorem escAt_len {s t : ByteArray} {i n : Nat} (h : escAt s i = some (t, n)) : t.size ≤ n - i := by
  have hp := escAt_place h
  unfold escAt at h
  split at h
  · cases h
  · split at h
    · injection h with h; injection h with h1 h2; subst h1; rw [str_len]; simp; omega
    · split at h
      · split at h
        · split at h
          · injection h with h; injection h with h1 h2; subst h1
            have := signB_len (pairZ (unitZ s (i + 2)) (unitZ s (i + 8)))
            omega
          · cases h
        · split at h
          · injection h with h; injection h with h1 h2; subst h1
            have := signB_len (unitZ s (i + 2))
            omega
          · cases h
      · cases h

/-- What is read from a place on, up to the closing quote, and the place behind that. -/
def unqG (s : ByteArray) : Nat → Nat → List UInt8 → Option (List UInt8 × Nat)
  | 0, _, _ => none
  | f + 1, i, out =>
    if s.size ≤ i then none
    else if (s.get! i).toNat = 34 then some (out, i + 1)
    else if (s.get! i).toNat = 92 then
      match escAt s i with
      | none => none
      | some (t, n) => unqG s f n (out ++ t.data.toList)
    else if gsOk s (i : Int) ∧ 32 ≤ (s.get! i).toNat then unqG s f (i + (Utf8.decode s i).2) (out ++ piece s i (Utf8.decode s i).2)
    else none
theorem unqG_fuel (s : ByteArray) : ∀ f g i out, s.size - i < f → s.size - i < g → unqG s f i out = unqG s g i out
  | 0, _, _, _, h, _ => by omega
  | _ + 1, 0, _, _, _, h => by omega
  | f + 1, g + 1, i, out, h1, h2 => by
    unfold unqG
    by_cases hi : s.size ≤ i
    · rw [if_pos hi, if_pos hi]
    · rw [if_neg hi, if_neg hi]
      split
      · rfl
      · split
        · cases he : escAt s i with
          | none => rfl
          | some p =>
            obtain ⟨t, n⟩ := p
            have := escAt_place he
            exact unqG_fuel s f g _ _ (by omega) (by omega)
        · split
          · have := dec_pos s i
            exact unqG_fuel s f g _ _ (by omega) (by omega)
          · rfl
def unqF (s : ByteArray) (i : Nat) (out : List UInt8) : Option (List UInt8 × Nat) := unqG s (s.size - i + 1) i out
theorem unqF_eq (s : ByteArray) (i : Nat) (out : List UInt8) : unqF s i out =
    if s.size ≤ i then none
    else if (s.get! i).toNat = 34 then some (out, i + 1)
    else if (s.get! i).toNat = 92 then
      match escAt s i with
      | none => none
      | some (t, n) => unqF s n (out ++ t.data.toList)
    else if gsOk s (i : Int) ∧ 32 ≤ (s.get! i).toNat then unqF s (i + (Utf8.decode s i).2) (out ++ piece s i (Utf8.decode s i).2)
    else none := by
  conv => lhs; unfold unqF; unfold unqG
  by_cases hi : s.size ≤ i
  · rw [if_pos hi, if_pos hi]
  · rw [if_neg hi, if_neg hi]
    split
    · rfl
    · split
      · cases he : escAt s i with
        | none => rfl
        | some p =>
          obtain ⟨t, n⟩ := p
          have := escAt_place he
          exact unqG_fuel s _ _ _ _ (by omega) (by omega)
      · split
        · have := dec_pos s i
          exact unqG_fuel s _ _ _ _ (by omega) (by omega)
        · rfl
/-- What Unquote hands back. -/
def unqP (s : ByteArray) (i : Int) : Option (List UInt8 × Nat) := if 0 ≤ i ∧ i < s.size ∧ (s.get! i.toNat).toNat = 34 then unqF s (i.toNat + 1) [] else none
def unqB (s : ByteArray) (i : Int) : ByteArray := match unqP s i with | none => ⟨#[]⟩ | some (t, _) => str t
def unqE (s : ByteArray) (i : Int) : Int := match unqP s i with | none => -1 | some (_, n) => (n : Int)
/-- What holds in both loops: what has been read ahead of i. -/
def UnqTo (s : ByteArray) (a : Int) (i : Nat) (out : List UInt8) : Prop := i ≤ s.size ∧ out.length ≤ i ∧ unqP s a = unqF s i out
theorem unqTo_start {s : ByteArray} {a : Int} (h : 0 ≤ a ∧ a < s.size ∧ (s.get! a.toNat).toNat = 34) : UnqTo s a (a.toNat + 1) [] := by
  refine ⟨by omega, Nat.zero_le _, ?_⟩
  unfold unqP; rw [if_pos h]
theorem unq_no {s : ByteArray} {a : Int} (h : unqP s a = none) : unqB s a = ⟨#[]⟩ ∧ unqE s a = -1 := by unfold unqB unqE; rw [h]; exact ⟨rfl, rfl⟩
theorem unq_some {s : ByteArray} {a : Int} {t : List UInt8} {n : Nat} (h : unqP s a = some (t, n)) : unqB s a = str t ∧ unqE s a = n := by unfold unqB unqE; rw [h]; exact ⟨rfl, rfl⟩
theorem unqTo_end {s : ByteArray} {a : Int} {i : Nat} {out : List UInt8} (h : UnqTo s a i out) (hi : s.size ≤ i) : unqB s a = ⟨#[]⟩ ∧ unqE s a = -1 := by
  apply unq_no; rw [h.2.2, unqF_eq, if_pos hi]
theorem unqTo_shut {s : ByteArray} {a : Int} {i : Nat} {out : List UInt8} (h : UnqTo s a i out) (hi : i < s.size) (hq : (s.get! i).toNat = 34) : unqB s a = str out ∧ unqE s a = (i : Int) + 1 := by
  have := unq_some (s := s) (a := a) (t := out) (n := i + 1) (by rw [h.2.2, unqF_eq, if_neg (by omega), if_pos hq])
  exact ⟨this.1, by rw [this.2]; omega⟩
theorem unqTo_escBad {s : ByteArray} {a : Int} {i : Nat} {out : List UInt8} (h : UnqTo s a i out) (hi : i < s.size) (hq : (s.get! i).toNat = 92) (he : escAt s i = none) : unqB s a = ⟨#[]⟩ ∧ unqE s a = -1 := by
  apply unq_no; rw [h.2.2, unqF_eq, if_neg (by omega), if_neg (by omega), if_pos hq, he]
theorem unqTo_esc {s t : ByteArray} {a : Int} {i n : Nat} {out : List UInt8} (h : UnqTo s a i out) (hi : i < s.size) (hq : (s.get! i).toNat = 92) (he : escAt s i = some (t, n)) : UnqTo s a n (out ++ t.data.toList) := by
  have hp := escAt_place he
  have hl := escAt_len he
  have ht : t.data.toList.length = t.size := rfl
  refine ⟨hp.2, by rw [List.length_append, ht]; have := h.2.1; omega, ?_⟩
  rw [h.2.2, unqF_eq, if_neg (by omega), if_neg (by omega), if_pos hq, he]
theorem unqTo_bad {s : ByteArray} {a : Int} {i : Nat} {out : List UInt8} (h : UnqTo s a i out) (hi : i < s.size) (hq : (s.get! i).toNat ≠ 34) (hb : (s.get! i).toNat ≠ 92) (hn : ¬ (gsOk s (i : Int) ∧ 32 ≤ (s.get! i).toNat)) : unqB s a = ⟨#[]⟩ ∧ unqE s a = -1 := by
  apply unq_no; rw [h.2.2, unqF_eq, if_neg (by omega), if_neg hq, if_neg hb, if_neg hn]
theorem unqTo_sign {s : ByteArray} {a : Int} {i : Nat} {out : List UInt8} (h : UnqTo s a i out) (hi : i < s.size) (hq : (s.get! i).toNat ≠ 34) (hb : (s.get! i).toNat ≠ 92) (hok : gsOk s (i : Int)) (h32 : 32 ≤ (s.get! i).toNat) : UnqTo s a (i + (Utf8.decode s i).2) (out ++ piece s i (Utf8.decode s i).2) := by
  have hd := dec_le s i hi
  refine ⟨hd, by rw [List.length_append, piece_len _ _ _ hd]; have := h.2.1; omega, ?_⟩
  rw [h.2.2, unqF_eq, if_neg (by omega), if_neg hq, if_neg hb, if_pos ⟨hok, h32⟩]
/-- A sign's number is below 32 where its byte is. -/
theorem sign_low {s : ByteArray} {i : Nat} (hi : i < s.size) (hok : gsOk s (i : Int)) : (Utf8.decode s i).1 < 32 ↔ (s.get! i).toNat < 32 := by
  rw [gsOk_nat s i hi] at hok
  revert hok
  rw [Lib.decode_at]
  have h0 := (s.get! i).toNat_lt
  generalize (s.get! i).toNat = b0 at *
  unfold Lib.decodeN
  repeat' split
  all_goals simp
  all_goals omega
/-- A sign's bytes are those that stand there. -/
theorem sign_piece {s : ByteArray} {i : Nat} (hi : i < s.size) (hok : gsOk s (i : Int)) : signB ((Utf8.decode s i).1 : Int) = s.extract i (i + (Utf8.decode s i).2) ∧ (signB ((Utf8.decode s i).1 : Int)).data.toList = piece s i (Utf8.decode s i).2 := by
  have hlt := (s.get! i).toNat_lt
  have hm0 : manyN (s.get! i).toNat ≠ 0 := fun h => sgn_none s i (.inl h) hok
  have hle : i + manyN (s.get! i).toNat ≤ s.size := by
    rcases Nat.lt_or_ge s.size (i + manyN (s.get! i).toNat) with h | h
    · exact absurd hok (sgn_none s i (.inr h))
    · exact h
  have h := sgn_some s i _ rfl (by omega) hle
  have hd := h.2 hok
  have hc := (sg_cmp s i (manyN (s.get! i).toNat) (accN s i (manyN (s.get! i).toNat - 1)) hle).2 (h.1.1 hok)
  rw [hd]
  refine ⟨hc, ?_⟩
  rw [hc, extract_piece]
end Go.Proofs.YtbfddabljkoapaaGreatDoor

/-
  The letters of the short escapes: the reference's table, and the places in the program's two texts.
-/
namespace Go.Proofs.YtbfddabljkoapaaGreatDoor
open Go.RowKit
set_option linter.unusedVariables false

/-- The letter of a short escape, 0 if there is none. -/
def shortOf (b : Nat) : Nat := if b = 34 then 34 else if b = 92 then 92 else if b = 8 then 98 else if b = 12 then 102 else if b = 10 then 110 else if b = 13 then 114 else if b = 9 then 116 else 0
/-- The place of a byte among those that have a short escape. -/
def shortK (b : Nat) : Int := if b = 34 then 0 else if b = 92 then 1 else if b = 8 then 2 else if b = 12 then 3 else if b = 10 then 4 else if b = 13 then 5 else if b = 9 then 6 else -1

set_option maxHeartbeats 2000000 in
theorem specShort (b : Nat) (hb : b < 256) (w : World) :
    Calls Tryz.prog 68 #[.int .u8 b] w fun e w' => e = .returned (.int .u8 (shortOf b)) ∧ Below w.heap.size w w' := by
  have fin : ∀ o1 o2 : Obj, Below w.heap.size w ((w.alloc o1).alloc o2) := fun o1 o2 => ((Below.refl _ w).alloc (Nat.le_refl _) _).alloc (by simp) _
  rcases (show b = 34 ∨ b = 92 ∨ b = 8 ∨ b = 12 ∨ b = 10 ∨ b = 13 ∨ b = 9 ∨ (b ≠ 34 ∧ b ≠ 92 ∧ b ≠ 8 ∧ b ≠ 12 ∧ b ≠ 10 ∧ b ≠ 13 ∧ b ≠ 9) by omega) with rfl | rfl | rfl | rfl | rfl | rfl | rfl | ⟨h1, h2, h3, h4, h5, h6, h7⟩
  · go_enter Tryz.func68, Tryz.ntmps68
    go_wp2_with fail
    go_rounds 8
    go_ret
    exact ⟨rfl, fin _ _⟩
  · go_enter Tryz.func68, Tryz.ntmps68
    go_wp2_with fail
    go_rounds 8
    go_ret
    exact ⟨rfl, fin _ _⟩
  · go_enter Tryz.func68, Tryz.ntmps68
    go_wp2_with fail
    go_rounds 8
    go_ret
    exact ⟨rfl, fin _ _⟩
  · go_enter Tryz.func68, Tryz.ntmps68
    go_wp2_with fail
    go_rounds 8
    go_ret
    exact ⟨rfl, fin _ _⟩
  · go_enter Tryz.func68, Tryz.ntmps68
    go_wp2_with fail
    go_rounds 8
    go_ret
    exact ⟨rfl, fin _ _⟩
  · go_enter Tryz.func68, Tryz.ntmps68
    go_wp2_with fail
    go_rounds 8
    go_ret
    exact ⟨rfl, fin _ _⟩
  · go_enter Tryz.func68, Tryz.ntmps68
    go_wp2_with fail
    go_rounds 8
    go_ret
    exact ⟨rfl, fin _ _⟩
  · have hz : shortOf b = 0 := by unfold shortOf; rw [if_neg h1, if_neg h2, if_neg h3, if_neg h4, if_neg h5, if_neg h6, if_neg h7]
    rw [hz]
    clear hz
    have e1 : ((34 : Int) == (b : Int)) = false := by simp; omega
    have e2 : ((92 : Int) == (b : Int)) = false := by simp; omega
    have e3 : ((8 : Int) == (b : Int)) = false := by simp; omega
    have e4 : ((12 : Int) == (b : Int)) = false := by simp; omega
    have e5 : ((10 : Int) == (b : Int)) = false := by simp; omega
    have e6 : ((13 : Int) == (b : Int)) = false := by simp; omega
    have e7 : ((9 : Int) == (b : Int)) = false := by simp; omega
    clear h1 h2 h3 h4 h5 h6 h7
    go_enter Tryz.func68, Tryz.ntmps68
    go_wp2_with fail
    go_rounds 8
    go_ret
    exact ⟨rfl, fin _ _⟩
/-- strings.IndexByte at the seven bytes. -/
theorem implShort (b : Nat) (hb : b < 256) (w : World) :
    Calls Tryz.prog 52 #[.string ⟨#[34, 92, 8, 12, 10, 13, 9]⟩, .int .u8 b] w fun e w' => e = .returned (.int .i64 (shortK b)) ∧ w = w' := by
  have h : Lib.indexByte [34, 92, 8, 12, 10, 13, 9] b.toUInt8 = shortK b := by
    have : ∀ m : Fin 256, Lib.indexByte [34, 92, 8, 12, 10, 13, 9] m.val.toUInt8 = shortK m.val := by decide +kernel
    exact this ⟨b, hb⟩
  refine (Tryz.strings_IndexByte _ b w).mono ?_
  rintro e w' ⟨rfl, rfl⟩
  exact ⟨by rw [← h, Int.toNat_natCast], rfl⟩
/-- strings.IndexByte at the seven letters. -/
def letterK (b : Nat) : Int := if b = 34 then 0 else if b = 92 then 1 else if b = 98 then 2 else if b = 102 then 3 else if b = 110 then 4 else if b = 114 then 5 else if b = 116 then 6 else -1
theorem implLetter (b : Nat) (hb : b < 256) (w : World) :
    Calls Tryz.prog 52 #[.string ⟨#[34, 92, 98, 102, 110, 114, 116]⟩, .int .u8 b] w fun e w' => e = .returned (.int .i64 (letterK b)) ∧ w = w' := by
  have h : Lib.indexByte [34, 92, 98, 102, 110, 114, 116] b.toUInt8 = letterK b := by
    have : ∀ m : Fin 256, Lib.indexByte [34, 92, 98, 102, 110, 114, 116] m.val.toUInt8 = letterK m.val := by decide +kernel
    exact this ⟨b, hb⟩
  refine (Tryz.strings_IndexByte _ b w).mono ?_
  rintro e w' ⟨rfl, rfl⟩
  exact ⟨by rw [← h, Int.toNat_natCast], rfl⟩
theorem short_cases (b : Nat) : (shortOf b = 0 ∧ shortK b = -1) ∨ (∃ j : Nat, shortK b = j ∧ ∃ h : j < 7, shortOf b ≠ 0 ∧ (([34, 92, 98, 102, 110, 114, 116] : List UInt8)[j]).toNat = shortOf b) := by
  unfold shortOf shortK
  by_cases h1 : b = 34
  · exact .inr ⟨0, by rw [if_pos h1]; rfl, by omega, by rw [if_pos h1]; decide, by rw [if_pos h1]; rfl⟩
  rw [if_neg h1, if_neg h1]
  by_cases h2 : b = 92
  · exact .inr ⟨1, by rw [if_pos h2]; rfl, by omega, by rw [if_pos h2]; decide, by rw [if_pos h2]; rfl⟩
  rw [if_neg h2, if_neg h2]
  by_cases h3 : b = 8
  · exact .inr ⟨2, by rw [if_pos h3]; rfl, by omega, by rw [if_pos h3]; decide, by rw [if_pos h3]; rfl⟩
  rw [if_neg h3, if_neg h3]
  by_cases h4 : b = 12
  · exact .inr ⟨3, by rw [if_pos h4]; rfl, by omega, by rw [if_pos h4]; decide, by rw [if_pos h4]; rfl⟩
  rw [if_neg h4, if_neg h4]
  by_cases h5 : b = 10
  · exact .inr ⟨4, by rw [if_pos h5]; rfl, by omega, by rw [if_pos h5]; decide, by rw [if_pos h5]; rfl⟩
  rw [if_neg h5, if_neg h5]
  by_cases h6 : b = 13
  · exact .inr ⟨5, by rw [if_pos h6]; rfl, by omega, by rw [if_pos h6]; decide, by rw [if_pos h6]; rfl⟩
  rw [if_neg h6, if_neg h6]
  by_cases h7 : b = 9
  · exact .inr ⟨6, by rw [if_pos h7]; rfl, by omega, by rw [if_pos h7]; decide, by rw [if_pos h7]; rfl⟩
  rw [if_neg h7, if_neg h7]
  exact .inl ⟨rfl, rfl⟩
end Go.Proofs.YtbfddabljkoapaaGreatDoor

/-
  PutSign: the bytes of a code point.
-/
namespace Go.Proofs.YtbfddabljkoapaaGreatDoor
open Go.RowKit
set_option linter.unusedVariables false

set_option maxHeartbeats 1000000 in
set_option maxRecDepth 100000 in
theorem specPutSign_1 (n : Nat) (w : World) (h : n < 128) :
    Calls Tryz.prog 60 #[.int .i64 n] w fun e w' => e = .returned (.string (Utf8.encode n)) ∧ Below w.heap.size w w' := by
  have hd0 : decide ((n : Int) ≤ 1114111) = true := by simp; omega
  have hd1 : decide (55296 ≤ (n : Int)) = false := by simp; omega
  have hd2 : decide ((n : Int) < 128) = true := by simp; omega
  have hl := lit1 (P := Tryz.prog) 22 9 5 Tryz.underlying22 Tryz.underlying5 Tryz.underlying9
  go_enter Tryz.func60, Tryz.ntmps60
  go_wp2_with go_in
  go_ret
  exact ⟨ret_eq (congrArg Value.string (enc1 n (by omega))), (Below.refl _ _).alloc (Nat.le_refl _) _⟩

set_option maxHeartbeats 1000000 in
set_option maxRecDepth 100000 in
theorem specPutSign_2 (n : Nat) (w : World) (h : 128 ≤ n ∧ n < 2048) :
    Calls Tryz.prog 60 #[.int .i64 n] w fun e w' => e = .returned (.string (Utf8.encode n)) ∧ Below w.heap.size w w' := by
  have hd0 : decide ((n : Int) ≤ 1114111) = true := by simp; omega
  have hd1 : decide (55296 ≤ (n : Int)) = false := by simp; omega
  have hd2 : decide ((n : Int) < 128) = false := by simp; omega
  have hd3 : decide ((n : Int) < 2048) = true := by simp; omega
  have hd4 : bits .and .i64 (n : Int) 63 = ((n % 64 : Nat) : Int) := and63 n (by omega)
  have hl := lit2 (P := Tryz.prog) 22 9 5 Tryz.underlying22 Tryz.underlying5 Tryz.underlying9
  go_enter Tryz.func60, Tryz.ntmps60
  go_wp2_with go_in
  go_ret
  exact ⟨ret_eq (congrArg Value.string (enc2 n (by omega))), (Below.refl _ _).alloc (Nat.le_refl _) _⟩

set_option maxHeartbeats 1000000 in
set_option maxRecDepth 100000 in
theorem specPutSign_3 (n : Nat) (w : World) (h : 2048 ≤ n ∧ n < 55296) :
    Calls Tryz.prog 60 #[.int .i64 n] w fun e w' => e = .returned (.string (Utf8.encode n)) ∧ Below w.heap.size w w' := by
  have hd0 : decide ((n : Int) ≤ 1114111) = true := by simp; omega
  have hd1 : decide (55296 ≤ (n : Int)) = false := by simp; omega
  have hd2 : decide ((n : Int) < 128) = false := by simp; omega
  have hd3 : decide ((n : Int) < 2048) = false := by simp; omega
  have hd4 : decide ((n : Int) < 65536) = true := by simp; omega
  have hd5 : bits .and .i64 (n : Int) 63 = ((n % 64 : Nat) : Int) := and63 n (by omega)
  have hd6 : bits .and .i64 ((n : Int) / 64) 63 = ((n / 64 % 64 : Nat) : Int) := and63d n 64 (by omega)
  have hl := lit3 (P := Tryz.prog) 22 9 5 Tryz.underlying22 Tryz.underlying5 Tryz.underlying9
  go_enter Tryz.func60, Tryz.ntmps60
  go_wp2_with go_in
  go_ret
  exact ⟨ret_eq (congrArg Value.string (enc3 n (by omega))), (Below.refl _ _).alloc (Nat.le_refl _) _⟩

set_option maxHeartbeats 1000000 in
set_option maxRecDepth 100000 in
theorem specPutSign_4 (n : Nat) (w : World) (h : 57343 < n ∧ n < 65536) :
    Calls Tryz.prog 60 #[.int .i64 n] w fun e w' => e = .returned (.string (Utf8.encode n)) ∧ Below w.heap.size w w' := by
  have hd0 : decide ((n : Int) ≤ 1114111) = true := by simp; omega
  have hd1 : decide (55296 ≤ (n : Int)) = true := by simp; omega
  have hd2 : decide ((n : Int) ≤ 57343) = false := by simp; omega
  have hd3 : decide ((n : Int) < 128) = false := by simp; omega
  have hd4 : decide ((n : Int) < 2048) = false := by simp; omega
  have hd5 : decide ((n : Int) < 65536) = true := by simp; omega
  have hd6 : bits .and .i64 (n : Int) 63 = ((n % 64 : Nat) : Int) := and63 n (by omega)
  have hd7 : bits .and .i64 ((n : Int) / 64) 63 = ((n / 64 % 64 : Nat) : Int) := and63d n 64 (by omega)
  have hl := lit3 (P := Tryz.prog) 22 9 5 Tryz.underlying22 Tryz.underlying5 Tryz.underlying9
  go_enter Tryz.func60, Tryz.ntmps60
  go_wp2_with go_in
  go_ret
  exact ⟨ret_eq (congrArg Value.string (enc3 n (by omega))), (Below.refl _ _).alloc (Nat.le_refl _) _⟩

set_option maxHeartbeats 1000000 in
set_option maxRecDepth 100000 in
theorem specPutSign_5 (n : Nat) (w : World) (h : 65536 ≤ n ∧ n < 1114112) :
    Calls Tryz.prog 60 #[.int .i64 n] w fun e w' => e = .returned (.string (Utf8.encode n)) ∧ Below w.heap.size w w' := by
  have hd0 : decide ((n : Int) ≤ 1114111) = true := by simp; omega
  have hd1 : decide (55296 ≤ (n : Int)) = true := by simp; omega
  have hd2 : decide ((n : Int) ≤ 57343) = false := by simp; omega
  have hd3 : decide ((n : Int) < 128) = false := by simp; omega
  have hd4 : decide ((n : Int) < 2048) = false := by simp; omega
  have hd5 : decide ((n : Int) < 65536) = false := by simp; omega
  have hd6 : bits .and .i64 (n : Int) 63 = ((n % 64 : Nat) : Int) := and63 n (by omega)
  have hd7 : bits .and .i64 ((n : Int) / 64) 63 = ((n / 64 % 64 : Nat) : Int) := and63d n 64 (by omega)
  have hd8 : bits .and .i64 ((n : Int) / 4096) 63 = ((n / 4096 % 64 : Nat) : Int) := and63d n 4096 (by omega)
  have hl := lit4 (P := Tryz.prog) 22 9 5 Tryz.underlying22 Tryz.underlying5 Tryz.underlying9
  go_enter Tryz.func60, Tryz.ntmps60
  go_wp2_with go_in
  go_ret
  exact ⟨ret_eq (congrArg Value.string (enc4 n (by omega))), (Below.refl _ _).alloc (Nat.le_refl _) _⟩

theorem specPutSign (n : Int) (w : World) (h0 : -9223372036854775808 ≤ n ∧ n ≤ 9223372036854775807) :
    Calls Tryz.prog 60 #[.int .i64 n] w fun e w' => e = .returned (.string (signB n)) ∧ Below w.heap.size w w' := by
  by_cases h : (0 ≤ n ∧ n < 55296) ∨ (57343 < n ∧ n ≤ 1114111)
  · have hs : signB n = Utf8.encode n := by unfold signB isSg; rw [if_pos (by simp; omega)]
    rw [hs]
    obtain ⟨n, rfl⟩ := Int.eq_ofNat_of_zero_le (show 0 ≤ n by omega)
    rcases (show n < 128 ∨ (128 ≤ n ∧ n < 2048) ∨ (2048 ≤ n ∧ n < 55296) ∨ (57343 < n ∧ n < 65536) ∨ (65536 ≤ n ∧ n < 1114112) by omega) with hc | hc | hc | hc | hc
    · exact specPutSign_1 n w hc
    · exact specPutSign_2 n w hc
    · exact specPutSign_3 n w hc
    · exact specPutSign_4 n w hc
    · exact specPutSign_5 n w hc
  · have hs : signB n = ⟨#[]⟩ := by unfold signB isSg; rw [if_neg (by simp; omega)]
    rw [hs]
    clear hs
    rcases (show n < 0 ∨ 1114111 < n ∨ (55296 ≤ n ∧ n ≤ 57343) by omega) with hc | hc | hc
    · clear h
      go_enter Tryz.func60, Tryz.ntmps60
      go_wp2_with go_in
      go_ret
      exact ⟨rfl, Below.refl _ _⟩
    · clear h
      have hd : decide (n ≤ 1114111) = false := by simp; omega
      go_enter Tryz.func60, Tryz.ntmps60
      go_wp2_with go_in
      go_ret
      exact ⟨rfl, Below.refl _ _⟩
    · clear h
      have hd : decide (n ≤ 1114111) = true := by simp; omega
      have hd2 : decide (n ≤ 57343) = true := by simp; omega
      go_enter Tryz.func60, Tryz.ntmps60
      go_wp2_with go_in
      go_ret
      exact ⟨rfl, Below.refl _ _⟩
end Go.Proofs.YtbfddabljkoapaaGreatDoor

/-
  GetSign of the reference: the sign at a place, as the model's own decoder reads it.
-/
namespace Go.Proofs.YtbfddabljkoapaaGreatDoor
open Go.RowKit
set_option linter.unusedVariables false

theorem and31 (n : Nat) (h : n < 9223372036854775808) : bits .and .i64 (n : Int) 31 = ((n % 32 : Nat) : Int) := by
  have h1 := ofInt_i64 n h
  have h2 := ofInt_i64 31 (by omega)
  show IntKind.i64.wrap ((BitVec.ofInt 64 (n : Int) &&& BitVec.ofInt 64 ((31 : Nat) : Int)).toNat : Int) = _
  rw [BitVec.toNat_and, h1, h2, Nat.and_two_pow_sub_one_eq_mod n 5, IntKind.wrap_i64]
  omega
theorem and15i (n : Nat) (h : n < 9223372036854775808) : bits .and .i64 (n : Int) 15 = ((n % 16 : Nat) : Int) := by
  have h1 := ofInt_i64 n h
  have h2 := ofInt_i64 15 (by omega)
  show IntKind.i64.wrap ((BitVec.ofInt 64 (n : Int) &&& BitVec.ofInt 64 ((15 : Nat) : Int)).toNat : Int) = _
  rw [BitVec.toNat_and, h1, h2, Nat.and_two_pow_sub_one_eq_mod n 4, IntKind.wrap_i64]
  omega
theorem and7i (n : Nat) (h : n < 9223372036854775808) : bits .and .i64 (n : Int) 7 = ((n % 8 : Nat) : Int) := by
  have h1 := ofInt_i64 n h
  have h2 := ofInt_i64 7 (by omega)
  show IntKind.i64.wrap ((BitVec.ofInt 64 (n : Int) &&& BitVec.ofInt 64 ((7 : Nat) : Int)).toNat : Int) = _
  rw [BitVec.toNat_and, h1, h2, Nat.and_two_pow_sub_one_eq_mod n 3, IntKind.wrap_i64]
  omega

set_option maxRecDepth 100000 in
theorem specMany (b : Nat) (hb : b < 256) (w : World) :
    Calls Tryz.prog 105 #[.int .i64 b] w fun e w' => e = .returned (.tuple #[.int .i64 (manyN b), .int .i64 (headN b)]) ∧ w = w' := by
  have e1 := and31 b (by omega)
  have e2 := and15i b (by omega)
  have e3 := and7i b (by omega)
  rcases (show b < 128 ∨ (128 ≤ b ∧ b < 192) ∨ (192 ≤ b ∧ b ≤ 223) ∨ (224 ≤ b ∧ b ≤ 239) ∨ (240 ≤ b ∧ b ≤ 247) ∨ (248 ≤ b) by omega) with h | h | h | h | h | h
  · have hm : manyN b = 1 ∧ headN b = b := by unfold manyN headN; rw [if_pos h, if_pos h]; exact ⟨rfl, rfl⟩
    rw [hm.1, hm.2]
    clear hm
    go_enter Tryz.func105, Tryz.ntmps105
    go_wp2_with go_in
    go_ret2
    exact ⟨rfl, rfl⟩
  · have hm : manyN b = 0 ∧ headN b = 0 := by
      unfold manyN headN
      rw [if_neg (by omega), if_neg (by omega), if_neg (by omega), if_neg (by omega), if_neg (by omega), if_neg (by omega), if_neg (by omega), if_neg (by omega)]; exact ⟨rfl, rfl⟩
    rw [hm.1, hm.2]
    clear hm
    go_enter Tryz.func105, Tryz.ntmps105
    go_wp2_with go_in
    go_ret2
    exact ⟨rfl, rfl⟩
  · have hm : manyN b = 2 ∧ headN b = b % 32 := by
      unfold manyN headN
      rw [if_neg (by omega), if_pos h, if_neg (by omega), if_pos h]; exact ⟨rfl, rfl⟩
    rw [hm.1, hm.2]
    clear hm
    go_enter Tryz.func105, Tryz.ntmps105
    go_wp2_with go_in
    go_ret2
    exact ⟨rfl, rfl⟩
  · have hm : manyN b = 3 ∧ headN b = b % 16 := by
      unfold manyN headN
      rw [if_neg (by omega), if_neg (by omega), if_pos h, if_neg (by omega), if_neg (by omega), if_pos h]; exact ⟨rfl, rfl⟩
    rw [hm.1, hm.2]
    clear hm
    go_enter Tryz.func105, Tryz.ntmps105
    go_wp2_with go_in
    go_ret2
    exact ⟨rfl, rfl⟩
  · have hm : manyN b = 4 ∧ headN b = b % 8 := by
      unfold manyN headN
      rw [if_neg (by omega), if_neg (by omega), if_neg (by omega), if_pos h, if_neg (by omega), if_neg (by omega), if_neg (by omega), if_pos h]; exact ⟨rfl, rfl⟩
    rw [hm.1, hm.2]
    clear hm
    go_enter Tryz.func105, Tryz.ntmps105
    go_wp2_with go_in
    go_ret2
    exact ⟨rfl, rfl⟩
  · have hm : manyN b = 0 ∧ headN b = 0 := by
      unfold manyN headN
      rw [if_neg (by omega), if_neg (by omega), if_neg (by omega), if_neg (by omega), if_neg (by omega), if_neg (by omega), if_neg (by omega), if_neg (by omega)]; exact ⟨rfl, rfl⟩
    rw [hm.1, hm.2]
    clear hm
    go_enter Tryz.func105, Tryz.ntmps105
    go_wp2_with go_in
    go_ret2
    exact ⟨rfl, rfl⟩

theorem gs_no {s : ByteArray} {i : Int} (h : ¬ gsOk s i) : gsN s i = -1 ∧ gsE s i = -1 := by
  unfold gsN gsE; rw [if_neg h, if_neg h]; exact ⟨rfl, rfl⟩
theorem gs_yes {s : ByteArray} {i : Int} (h : gsOk s i) : gsN s i = (Utf8.decode s i.toNat).1 ∧ gsE s i = i + (Utf8.decode s i.toNat).2 := by
  unfold gsN gsE; rw [if_pos h, if_pos h]; exact ⟨rfl, rfl⟩
theorem gs_yes' {s : ByteArray} {i : Nat} (h : gsOk s (i : Int)) : gsN s i = (Utf8.decode s i).1 ∧ gsE s i = (i : Int) + (Utf8.decode s i).2 := by
  have := gs_yes h
  rwa [Int.toNat_natCast] at this
theorem dec_w (s : ByteArray) (i : Nat) : (Utf8.decode s i).1 < 4294967296 ∧ 1 ≤ (Utf8.decode s i).2 ∧ (Utf8.decode s i).2 ≤ 4 := by
  rw [Lib.decode_at]
  have h0 := (s.get! i).toNat_lt
  have h1 := (s.get! (i + 1)).toNat_lt
  have h2 := (s.get! (i + 2)).toNat_lt
  have h3 := (s.get! (i + 3)).toNat_lt
  unfold Lib.decodeN
  repeat' split
  all_goals simp
  all_goals omega
theorem accN_step (s : ByteArray) (i k : Nat) (h : 1 ≤ k) (hk : i + k < s.size) : accN s i (k + 1 - 1) = accN s i (k - 1) * 64 + s[i + k].toNat % 64 := by
  obtain ⟨k, rfl⟩ : ∃ j, k = j + 1 := ⟨k - 1, by omega⟩
  rw [get_get! _ _ (by omega)]
  rfl
theorem tup2 {a a' b b' : Int} (h1 : a = a') (h2 : b = b') : Ending.returned (.tuple #[.int .i64 a, .int .i64 b]) = Ending.returned (.tuple #[.int .i64 a', .int .i64 b']) := by rw [h1, h2]

theorem sl2 (s : ByteArray) (i j : Nat) (h : i + j ≤ s.size) (hs : s.size ≤ 1048576) : (0 : Int) ≤ i ∧ (i : Int) ≤ (i : Int) + j ∧ (i : Int) + j ≤ s.size ∧ IntKind.i64.wrap ((i : Int) + j) = (i : Int) + j ∧ (0 : Int) ≤ (i : Int) + j ∧ ((i : Int) + j).toNat = i + j := by
  refine ⟨by omega, by omega, by omega, ?_, by omega, by omega⟩
  rw [IntKind.wrap_i64]; omega

set_option maxHeartbeats 1000000 in
theorem specGetSign (s : ByteArray) (i : Int) (w : World) (hs : s.size ≤ 1048576) (hi : -9223372036854775808 ≤ i ∧ i ≤ 9223372036854775807) :
    Calls Tryz.prog 59 #[.string s, .int .i64 i] w fun e w' => e = .returned (.tuple #[.int .i64 (gsN s i), .int .i64 (gsE s i)]) ∧ Below w.heap.size w w' := by
  by_cases hin : 0 ≤ i ∧ i < s.size
  · obtain ⟨h0, h1⟩ := hin
    obtain ⟨i, rfl⟩ := Int.eq_ofNat_of_zero_le h0
    have hlt : i < s.size := by omega
    have hu : s[i].toNat < 256 := UInt8.toNat_lt _
    have HG := Lib.hid (get_get! s i hlt)
    by_cases hno : manyN s[i].toNat = 0 ∨ s.size < i + manyN s[i].toNat
    · have HN := Lib.hid (gs_no (sgn_none s i (by rw [← HG.out]; exact hno)))
      rcases hno with hm | hm
      · have HM := Lib.hid hm
        clear hm
        go_enter Tryz.func59, Tryz.ntmps59
        go_wp2_with fail
        refine (specMany _ hu w).mono ?_
        rintro e w' ⟨rfl, rfl⟩
        rw [HM.out]
        go_wp2_with fail
        go_ret2
        exact ⟨tup2 HN.out.1.symm HN.out.2.symm, Below.refl _ _⟩
      · have hml := manyN_le s[i].toNat
        by_cases hm0 : manyN s[i].toNat = 0
        · have HM := Lib.hid hm0
          clear hm hm0
          go_enter Tryz.func59, Tryz.ntmps59
          go_wp2_with fail
          refine (specMany _ hu w).mono ?_
          rintro e w' ⟨rfl, rfl⟩
          rw [HM.out]
          go_wp2_with fail
          go_ret2
          exact ⟨tup2 HN.out.1.symm HN.out.2.symm, Below.refl _ _⟩
        · go_enter Tryz.func59, Tryz.ntmps59
          go_wp2_with fail
          refine (specMany _ hu w).mono ?_
          rintro e w' ⟨rfl, rfl⟩
          go_wp2_with fail
          all_goals go_ret2
          all_goals exact ⟨tup2 HN.out.1.symm HN.out.2.symm, Below.refl _ _⟩
    · obtain ⟨hm0, hmle⟩ : manyN s[i].toNat ≠ 0 ∧ i + manyN s[i].toNat ≤ s.size := by omega
      have hml := manyN_le s[i].toNat
      have HS := Lib.hid (sgn_some s i (manyN s[i].toNat) (by rw [HG.out]) (by omega) hmle)
      have HH := Lib.hid (show headN s[i].toNat = accN s i (1 - 1) by rw [HG.out]; rfl)
      clear hno
      go_enter Tryz.func59, Tryz.ntmps59
      go_wp2_with fail
      refine (specMany _ hu w).mono ?_
      rintro e w' ⟨rfl, rfl⟩
      rw [HH.out]
      generalize manyN s[i].toNat = m at *
      have hmz : ((m : Int) == 0) = false := by simp; omega
      have hm1 : 1 ≤ m := by omega
      clear hm0
      go_wp2_with fail
      go_loop [7, 8] (fun n k => ∃ j : Nat, 1 ≤ j ∧ j ≤ m ∧ k = .int .i64 j ∧ n = .int .i64 (accN s i (j - 1))) (fun _ k => m - (intOf k).toNat)
      case atStart => exact ⟨1, by omega, by omega, rfl, rfl⟩
      case round =>
        obtain ⟨j, hj1, hj, rfl, rfl⟩ := hrel
        have ha := accN_lt s i (j - 1) (by omega)
        by_cases hlt2 : j < m
        · have HST := Lib.hid (accN_step s i j hj1 (by omega))
          have hu2 : s[i + j].toNat < 256 := UInt8.toNat_lt _
          have hx := and63 s[i + j].toNat (by omega)
          generalize accN s i (j - 1) = a at *
          go_wp2_with fail
          go_round
          case rel => exact ⟨j + 1, by omega, by omega, by go_num, by rw [HST.out]; go_num⟩
          case measure => simp [intOf]; omega
        · obtain rfl : j = m := by omega
          have hcmp := sg_cmp s i j (accN s i (j - 1)) hmle
          have HC := Lib.hid hcmp
          clear hcmp
          generalize accN s i (j - 1) = a at *
          have HK : Hid (((signB (a : Int)).toList == (s.extract i (i + j)).toList) = decide (gsOk s (i : Int))) := by
            rw [Bool.eq_iff_iff, decide_eq_true_iff, HS.out.1, ← HC.out, beq_iff_eq, ByteArray.toList_eq, ByteArray.toList_eq]
            exact ⟨fun h => ba_ext h, fun h => by rw [h]⟩
          go_wp2_with fail
          obtain ⟨q1, q2, q3, q4, q5, q6⟩ := sl2 s i j hmle hs
          go_region_held3 (fun _ => True) (exact trivial) (first | (go_at_call 60; refine (specPutSign _ _ ⟨by omega, by omega⟩).mono ?_; rintro e w2 ⟨rfl, hb2⟩))
          by_cases hok : gsOk s (i : Int)
          · have ht : ((signB (a : Int)).toList == (s.extract i (i + j)).toList) = true := by rw [HK.out]; exact decide_eq_true hok
            have HY := Lib.hid (gs_yes hok)
            have HD := Lib.hid (HS.out.2 hok)
            clear q1 q2 q3 q4 q5 q6
            go_wp2_with fail
            all_goals go_ret2
            all_goals first
              | (have hx : (!(signB (a : Int)).toList == (s.extract i (i + j)).toList) = true := by assumption
                 rw [ht] at hx; cases hx)
              | exact ⟨tup2 (by rw [HY.out.1, Int.toNat_natCast, HD.out]) (by rw [HY.out.2, Int.toNat_natCast, HD.out]), (Below.refl _ _).drew.trans hb2⟩
          · have ht : ((signB (a : Int)).toList == (s.extract i (i + j)).toList) = false := by rw [HK.out]; exact decide_eq_false hok
            have HN := Lib.hid (gs_no hok)
            clear q1 q2 q3 q4 q5 q6
            go_wp2_with fail
            all_goals go_ret2
            all_goals first
              | (have hx : (!(signB (a : Int)).toList == (s.extract i (i + j)).toList) = false := by assumption
                 rw [ht] at hx; cases hx)
              | exact ⟨tup2 HN.out.1.symm HN.out.2.symm, (Below.refl _ _).drew.trans hb2⟩
  · have HN := Lib.hid (gs_no (s := s) (i := i) (fun h => hin ⟨h.1, h.2.1⟩))
    go_enter Tryz.func59, Tryz.ntmps59
    by_cases h0 : i < 0
    · clear hin
      go_wp2_with fail
      go_ret2
      exact ⟨tup2 HN.out.1.symm HN.out.2.symm, Below.refl _ _⟩
    · have h1 : (s.size : Int) ≤ i := by omega
      clear hin
      go_wp2_with fail
      go_ret2
      exact ⟨tup2 HN.out.1.symm HN.out.2.symm, Below.refl _ _⟩
end Go.Proofs.YtbfddabljkoapaaGreatDoor

/-
  Signs and TextOk of the reference.
-/
namespace Go.Proofs.YtbfddabljkoapaaGreatDoor
open Go.RowKit
set_option linter.unusedVariables false

/-- A number as a value. -/
def iv (n : Nat) : Value := .int .i64 (n : Int)
theorem one_iv (n : Int) : ∀ u ∈ #[Value.int .i64 n].toList, u.oneCell' = true := by
  intro u hu; simp at hu; subst hu; rfl
theorem infoI : (Tryz.prog.info? 3).map (fun i => (i.zero, i.size, i.bytes)) = some (some (.int .i64 0), 1, 8) := by kernel_rfl
/-- What holds in the loop. -/
def SgRel (s : ByteArray) (w : World) (o i : Value) (wr : World) : Prop :=
  ∃ (j : Nat) (pre : List Nat), ReadTo s j pre ∧ i = .int .i64 j ∧ wr.ownsRow w.heap.size 3 1 o pre.length (pre.map iv) ∧ Below w.heap.size w wr

theorem sg_next {s : ByteArray} {w w' : World} {j : Nat} {pre : List Nat} {v : Value} (h : ReadTo s j pre) (hj : j < s.size) (hok : gsOk s (j : Int)) {a b : Int} (ha : a = (Utf8.decode s j).1) (hb : b = (j : Int) + (Utf8.decode s j).2)
    (hown : w'.ownsRow w.heap.size 3 1 v (pre.length + 1) (pre.map iv ++ [.int .i64 a])) (hbl : Below w.heap.size w w') : SgRel s w v (.int .i64 b) w' := by
  subst ha hb
  exact ⟨_, _, readTo_next h hj hok, by simp, by simpa [iv] using hown, hbl⟩

set_option maxHeartbeats 1000000 in
theorem specSigns (s : ByteArray) (w : World) (hs : s.size ≤ 1048576) :
    Calls Tryz.prog 71 #[.string s] w fun e w' => ∃ o, e = .returned o ∧ w'.ownsRow w.heap.size 3 1 o (signsL s).length ((signsL s).map iv) ∧ Below w.heap.size w w' := by
  go_enter Tryz.func71, Tryz.ntmps71
  go_wp2_with fail
  go_loopw [3, 4] (fun o i wr => SgRel s w o i wr) (fun _ i _ => s.size - (intOf i).toNat)
  case atStart => exact ⟨0, [], readTo_zero s, rfl, own_empty w _ _, (Below.refl _ _).alloc (Nat.le_refl _) _⟩
  case round =>
    obtain ⟨j, pre, hr, rfl, hown, hb⟩ := hrel
    have hle := hr.1
    have hpl := hr.2.1
    have HR := Lib.hid hr
    clear hr
    by_cases hlt : j < s.size
    · by_cases hok : gsOk s (j : Int)
      · have HY := Lib.hid (gs_yes' hok)
        have hp := dec_w s j
        go_wp2_with fail
        refine (specGetSign s j _ hs ⟨by omega, by omega⟩).mono ?_
        rintro e w1 ⟨rfl, hb1⟩
        have hown1 := own_below hown hb1
        have hbw := hb.trans (hb1.mono hb.size)
        have hg : gsE s (j : Int) = (j : Int) + (Utf8.decode s j).2 := HY.out.2
        have hpos : decide (gsE s (j : Int) < 0) = false := by rw [hg]; simp; omega
        have hpos2 : ¬ gsE s (j : Int) < 0 := by omega
        have HG := Lib.hid hg
        clear hg hown hb hb1
        go_wp2_with (at_builtin; refine wpList_app rfl (.tmp 21) (.tmp 23) 65 rfl w.heap.size 3 Tryz.underlying65 infoI rfl (by decide) (W := w) rfl (hown1.alloc _) (hbw.alloc hbw.size _) (Nat.le_trans hbw.size (by simp)) _ 1 1 _ rfl rfl (cells_new _ _ _) (one_iv _) (by unfold maxLen; omega) (by omega) ?_; intro v' w' hown' hb' hB')
        go_roundw
        case rel => exact sg_next HR.out hlt hok HY.out.1 HG.out hown' hb'
        case measure => have := HG.out; simp [intOf]; omega
      · have HN := Lib.hid (gs_no hok)
        have HE := Lib.hid (readTo_bad HR.out hlt hok)
        go_wp2_with fail
        refine (specGetSign s j _ hs ⟨by omega, by omega⟩).mono ?_
        rintro e w1 ⟨rfl, hb1⟩
        have hbw := hb.trans (hb1.mono hb.size)
        rw [HN.out.1, HN.out.2]
        go_wp2_with fail
        go_ret
        refine ⟨_, rfl, ?_, hbw.alloc hbw.size _⟩
        rw [HE.out.1]
        exact own_empty' _ _ hbw.size
    · have HE := Lib.hid (readTo_end HR.out hlt)
      go_wp2_with fail
      go_ret
      refine ⟨_, rfl, ?_, hb⟩
      rw [HE.out.1]
      exact hown

set_option maxHeartbeats 1000000 in
theorem specTextOk (s : ByteArray) (w : World) (hs : s.size ≤ 1048576) :
    Calls Tryz.prog 30 #[.string s] w fun e w' => e = .returned (.bool (textOk s)) ∧ Below w.heap.size w w' := by
  have HT := Lib.hid (textOk_signs s)
  by_cases h0 : s.size = 0
  · obtain rfl : s = ⟨#[]⟩ := by
      cases s with
      | mk d => cases d with
        | mk l => cases l with
          | nil => rfl
          | cons a l => simp [ByteArray.size] at h0
    go_enter Tryz.func30, Tryz.ntmps30
    go_wp2_with fail
    go_ret
    exact ⟨ret_eq (congrArg Value.bool (by rw [HT.out]; rfl)), Below.refl _ _⟩
  · have hne : s.toList.isEmpty = false := by
      rw [ByteArray.toList_eq]
      cases s with
      | mk d => cases d with
        | mk l => cases l with
          | nil => exact absurd rfl h0
          | cons a l => rfl
    have hz := signsL_len s
    have HE := Lib.hid (show textOk s = decide (0 < (signsL s).length) by rw [HT.out]; simp [h0])
    go_enter Tryz.func30, Tryz.ntmps30
    go_wp2_with fail
    refine (specSigns s w hs).mono ?_
    rintro e w1 ⟨o, rfl, hown, hb1⟩
    obtain ⟨A, c, rfl⟩ := own_slice hown
    clear hown
    go_wp2_with fail
    go_ret
    exact ⟨ret_eq (congrArg Value.bool (by rw [HE.out])), hb1⟩

end Go.Proofs.YtbfddabljkoapaaGreatDoor

/-
  Unquote of the reference: four digits, what a backslash begins, the text behind a quote.
-/
namespace Go.Proofs.YtbfddabljkoapaaGreatDoor
open Go.RowKit
set_option linter.unusedVariables false
set_option linter.unusedSimpArgs false
set_option maxRecDepth 100000

/-- The value of a small hexadecimal digit, or -1. -/
def dgV (c : Nat) : Int := if 48 ≤ c ∧ c ≤ 57 then (c : Int) - 48 else if 97 ≤ c ∧ c ≤ 102 then (c : Int) - 87 else -1
theorem dgV_up {c : Nat} (h : 65 ≤ c ∧ c ≤ 70) : dgV (c + 32) = hxV c := by
  unfold dgV hxV
  rw [if_neg (by omega), if_pos (by omega), if_neg (by omega), if_neg (by omega), if_pos (by omega)]
  omega
theorem dgV_own {c : Nat} (h : ¬ (65 ≤ c ∧ c ≤ 70)) : dgV c = hxV c := by
  unfold dgV hxV
  rw [if_neg h]
theorem specDig (c : Nat) (w : World) (hu : c < 256) : Calls Tryz.prog 64 #[.int .u8 c] w fun e w' => e = .returned (.int .i64 (dgV c)) ∧ w' = w := by
  unfold dgV
  split
  · have hd : decide ((c : Int) ≤ 57) = true := by simp; omega
    go_enter Tryz.func64, Tryz.ntmps64
    go_wp2_with go_in
    go_ret
    exact ⟨rfl, rfl⟩
  · split
    · have hd : decide ((c : Int) ≤ 57) = false := by simp; omega
      have hd2 : decide ((c : Int) ≤ 102) = true := by simp; omega
      go_enter Tryz.func64, Tryz.ntmps64
      go_wp2_with go_in
      go_ret
      exact ⟨rfl, rfl⟩
    · rcases (show decide (48 ≤ (c : Int)) = false ∧ decide (97 ≤ (c : Int)) = false ∨ decide (48 ≤ (c : Int)) = true ∧ decide ((c : Int) ≤ 57) = false ∧ decide (97 ≤ (c : Int)) = false ∨ decide (48 ≤ (c : Int)) = true ∧ decide ((c : Int) ≤ 57) = false ∧ decide (97 ≤ (c : Int)) = true ∧ decide ((c : Int) ≤ 102) = false by simp only [decide_eq_true_iff, decide_eq_false_iff_not]; omega) with ⟨h1, h2⟩ | ⟨h1, h2, h3⟩ | ⟨h1, h2, h3, h4⟩
      all_goals
        go_enter Tryz.func64, Tryz.ntmps64
        go_wp2_with go_in
        go_ret
        exact ⟨rfl, rfl⟩

set_option maxHeartbeats 2000000 in
theorem specUnit (s : ByteArray) (i : Nat) (w : World) (hs : s.size ≤ 1048576) (hi : i ≤ 2000000) :
    Calls Tryz.prog 106 #[.string s, .int .i64 i] w fun e w' => e = .returned (.int .i64 (unitZ s i)) ∧ w' = w := by
  by_cases hr : i + 4 ≤ s.size
  · go_enter Tryz.func106, Tryz.ntmps106
    go_wp2_with fail
    go_loop [5, 6] (fun n k => ∃ j : Nat, j ≤ 4 ∧ k = .int .i64 ((i + j : Nat) : Int) ∧ n = .int .i64 (accH s i j) ∧ hexTo s i j) (fun _ k => i + 4 - (intOf k).toNat)
    case atStart => exact ⟨0, by omega, rfl, rfl, fun k hk => by omega⟩
    case round =>
      obtain ⟨j, hj, rfl, rfl, hH⟩ := hrel
      by_cases hlt : j < 4
      · have hu : s[i + j].toNat < 256 := UInt8.toNat_lt _
        have hR := accH_range s i j (by omega) hH
        have hR2 : accH s i j < 65536 := by
          have h16 : (16 : Int) ^ j ≤ 16 ^ 3 := by
            have : j = 0 ∨ j = 1 ∨ j = 2 ∨ j = 3 := by omega
            rcases this with rfl | rfl | rfl | rfl <;> decide
          omega
        have hstep : accH s i (j + 1) = 16 * accH s i j + hxV s[i + j].toNat := by rw [get_get! s (i + j) (by omega)]; rfl
        have hgood : ¬ hxV s[i + j].toNat < 0 → hexTo s i (j + 1) := fun h k hk => by
          rcases Nat.lt_or_ge k j with h2 | h2
          · exact hH k h2
          · obtain rfl : k = j := by omega
            rw [← get_get! s (i + k) (by omega)]
            omega
        have hbad : hxV s[i + j].toNat < 0 → unitZ s i = -1 := fun h => unitZ_bad hlt (by rw [← get_get! s (i + j) (by omega)]; exact h)
        have HS := Lib.hid hstep
        have HG := Lib.hid hgood
        have HB := Lib.hid hbad
        have hR1 := hR.1
        generalize accH s i j = A at *
        have HX := Lib.hid hxV_range
        clear hstep hgood hbad hR hH
        obtain ⟨c, hc⟩ : ∃ c, s[i + j].toNat = c := ⟨_, rfl⟩
        rw [hc] at hu HS HG HB
        by_cases hup : 65 ≤ c ∧ c ≤ 70
        · have HD := dgV_up hup
          have hpos : ¬ hxV c < 0 := by unfold hxV; rw [if_neg (by omega), if_neg (by omega), if_pos (by omega)]; omega
          have hd1 : decide (65 ≤ (c : Int)) = true := by simp; omega
          have hd2 : decide ((c : Int) ≤ 70) = true := by simp; omega
          have hcd := fun w => specDig (c + 32) w (by omega)
          rw [HD] at hcd
          have HCD := Lib.hid hcd
          have hx := HX.out c
          generalize hxV c = x at *
          clear HD hcd
          go_wp2_with (first | (go_at_call 67; go_in) | fail)
          refine (HCD.out _).mono ?_
          rintro e w1 ⟨rfl, rfl⟩
          go_wp2_with fail
          go_round
          case rel => exact ⟨j + 1, by omega, by go_num, by rw [HS.out], HG.out (by omega)⟩
          case measure => simp [intOf]; omega
        · have HD := dgV_own hup
          have hcd := fun w => specDig c w hu
          rw [HD] at hcd
          have HCD := Lib.hid hcd
          have hx := HX.out c
          generalize hxV c = x at *
          clear HD hcd
          have hin : (decide (65 ≤ (c : Int)) = false) ∨ (decide (65 ≤ (c : Int)) = true ∧ decide ((c : Int) ≤ 70) = false) := by simp; omega
          rcases hin with hd1 | ⟨hd1, hd2⟩
          all_goals
            go_wp2_with (first | (go_at_call 67; go_in) | fail)
            refine (HCD.out _).mono ?_
            rintro e w1 ⟨rfl, rfl⟩
            by_cases hpos : x < 0
            · go_wp2_with fail
              go_ret
              exact ⟨ret_eq (congrArg (Value.int .i64) (HB.out (by omega)).symm), rfl⟩
            · go_wp2_with fail
              go_round
              case rel => exact ⟨j + 1, by omega, by go_num, by rw [HS.out], HG.out (by omega)⟩
              case measure => simp [intOf]; omega
      · obtain rfl : j = 4 := by omega
        have HU : Hid (unitZ s i = accH s i 4) := Lib.hid (by unfold unitZ; rw [if_pos ⟨hr, hH⟩])
        clear hH
        go_wp2_with fail
        go_ret
        exact ⟨ret_eq (congrArg (Value.int .i64) HU.out.symm), rfl⟩
  · have hz : unitZ s i = -1 := by unfold unitZ; rw [if_neg (fun h => hr h.1)]
    rw [hz]
    clear hz
    go_enter Tryz.func106, Tryz.ntmps106
    go_wp2_with fail
    go_ret
    exact ⟨rfl, rfl⟩

/-- What a backslash begins, and the place behind it. -/
def escB (s : ByteArray) (i : Nat) : ByteArray := match escAt s i with | none => ⟨#[]⟩ | some (t, _) => t
def escE (s : ByteArray) (i : Nat) : Int := match escAt s i with | none => -1 | some (_, n) => (n : Int)
theorem esc_none {s : ByteArray} {i : Nat} (h : escAt s i = none) : escB s i = ⟨#[]⟩ ∧ escE s i = -1 := by unfold escB escE; rw [h]; exact ⟨rfl, rfl⟩
theorem esc_some {s t : ByteArray} {i n : Nat} (h : escAt s i = some (t, n)) : escB s i = t ∧ escE s i = (n : Int) := by unfold escB escE; rw [h]; exact ⟨rfl, rfl⟩
theorem esc_end {s : ByteArray} {i : Nat} (h : s.size ≤ i + 1) : escAt s i = none := by unfold escAt; rw [if_pos h]
theorem esc_long {s : ByteArray} {i c : Nat} (h : i + 1 < s.size) (hc : (s.get! (i + 1)).toNat = c) (hl : longOf c ≠ 0) : escAt s i = some (str [UInt8.ofNat (longOf c)], i + 2) := by
  unfold escAt; rw [if_neg (by omega), hc, if_pos hl]
theorem esc_bad {s : ByteArray} {i c : Nat} (h : i + 1 < s.size) (hc : (s.get! (i + 1)).toNat = c) (hl : longOf c = 0) (hu : c ≠ 117) : escAt s i = none := by
  unfold escAt; rw [if_neg (by omega), hc, if_neg (by omega), if_neg hu]
theorem esc_two {s : ByteArray} {i : Nat} (h : i + 1 < s.size) (hc : (s.get! (i + 1)).toNat = 117) (h1 : 55296 ≤ unitZ s (i + 2) ∧ unitZ s (i + 2) ≤ 56319) (h2 : i + 8 ≤ s.size ∧ (s.get! (i + 6)).toNat = 92 ∧ (s.get! (i + 7)).toNat = 117) (h3 : 56320 ≤ unitZ s (i + 8) ∧ unitZ s (i + 8) ≤ 57343) :
    escAt s i = some (signB (pairZ (unitZ s (i + 2)) (unitZ s (i + 8))), i + 12) := by
  unfold escAt; rw [if_neg (by omega), hc, if_neg (by decide), if_pos rfl, if_pos h1, if_pos ⟨h2.1, h2.2.1, h2.2.2, h3⟩]
theorem esc_lone {s : ByteArray} {i : Nat} (h : i + 1 < s.size) (hc : (s.get! (i + 1)).toNat = 117) (h1 : 55296 ≤ unitZ s (i + 2) ∧ unitZ s (i + 2) ≤ 56319) (h2 : ¬ (i + 8 ≤ s.size ∧ (s.get! (i + 6)).toNat = 92 ∧ (s.get! (i + 7)).toNat = 117 ∧ 56320 ≤ unitZ s (i + 8) ∧ unitZ s (i + 8) ≤ 57343)) :
    escAt s i = none := by
  unfold escAt; rw [if_neg (by omega), hc, if_neg (by decide), if_pos rfl, if_pos h1, if_neg h2]
theorem esc_one {s : ByteArray} {i : Nat} (h : i + 1 < s.size) (hc : (s.get! (i + 1)).toNat = 117) (h1 : ¬ (55296 ≤ unitZ s (i + 2) ∧ unitZ s (i + 2) ≤ 56319)) (h2 : isSg (unitZ s (i + 2)) = true) :
    escAt s i = some (signB (unitZ s (i + 2)), i + 6) := by
  unfold escAt; rw [if_neg (by omega), hc, if_neg (by decide), if_pos rfl, if_neg h1, if_pos h2]
theorem esc_off {s : ByteArray} {i : Nat} (h : i + 1 < s.size) (hc : (s.get! (i + 1)).toNat = 117) (h1 : ¬ (55296 ≤ unitZ s (i + 2) ∧ unitZ s (i + 2) ≤ 56319)) (h2 : isSg (unitZ s (i + 2)) = false) :
    escAt s i = none := by
  unfold escAt; rw [if_neg (by omega), hc, if_neg (by decide), if_pos rfl, if_neg h1, if_neg (by rw [h2]; decide)]
theorem short_lt (b : Nat) : shortOf b < 256 := by
  unfold shortOf
  repeat' split
  all_goals omega
theorem short_long {b : Nat} (hb : shortOf b ≠ 0) : longOf (shortOf b) = b ∧ shortOf b ≠ 47 ∧ b < 128 := by
  revert hb
  unfold shortOf
  repeat' split
  all_goals (intro hb; first | exact absurd rfl hb | (subst_vars; decide))
theorem long_short {c : Nat} (h : longOf c ≠ 0) (h2 : c ≠ 47) : shortOf (longOf c) = c := by
  revert h
  unfold longOf
  repeat' split
  all_goals (intro hb; first | exact absurd rfl hb | (subst_vars; decide) | omega)
theorem signB_nil (n : Int) : (signB n).size = 0 ↔ isSg n = false := by
  cases h : isSg n with
  | false => unfold signB; rw [if_neg (by rw [h]; decide)]; exact ⟨fun _ => rfl, fun _ => rfl⟩
  | true =>
    refine ⟨fun h2 => ?_, fun h2 => by cases h2⟩
    exfalso
    obtain ⟨k, rfl⟩ := Int.eq_ofNat_of_zero_le (isSg_pos h)
    have h1 := congrArg List.length (sgN_eq k)
    rw [List.length_map] at h1
    have h3 : (signB (k : Int)).data.toList.length = (signB (k : Int)).size := (Lib.size_eq _).symm
    rw [h3, h2] at h1
    have h4 : sgN k = encN k := by
      unfold sgN
      rw [if_pos]
      unfold isSg at h
      simp at h
      omega
    rw [h4] at h1
    unfold encN at h1
    repeat' split at h1
    all_goals simp at h1

theorem tupV {a a' b b' : Value} (h1 : a = a') (h2 : b = b') : Ending.returned (.tuple #[a, b]) = Ending.returned (.tuple #[a', b']) := by rw [h1, h2]
theorem ext_two (s : ByteArray) (j : Nat) (h : j + 2 ≤ s.size) (a b : UInt8) : ((s.extract j (j + 2)).toList == [a, b]) = decide (s.get! j = a ∧ s.get! (j + 1) = b) := by
  have h1 : (s.extract j (j + 2)).data.toList = [s.get! j, s.get! (j + 1)] := by
    rw [extract_piece]
    have e1 := piece_succ s j 1 (by omega)
    have e0 := piece_succ s j 0 (by omega)
    rw [e1, e0, ← get_get! s j (by omega), ← get_get! s (j + 1) (by omega)]
    simp [piece]
  rw [Bool.eq_iff_iff, decide_eq_true_iff, beq_iff_eq, ByteArray.toList_eq, h1]
  simp

end Go.Proofs.YtbfddabljkoapaaGreatDoor

/-
  Lower case, plainly: a byte of 128 or more leaves a byte that is no hexadecimal digit.
-/
namespace Go.Proofs.YtbfddabljkoapaaGreatDoor
open Go.RowKit
set_option linter.unusedVariables false
set_option linter.unusedSimpArgs false
set_option maxRecDepth 1000000

/-- A row under which no great sign becomes a digit. -/
def rowOff (x : Lib.CaseRow) : Bool :=
  if x.delta 1 > 1114111 then decide (103 ≤ x.1)
  else decide (x.2.1 ≤ 127) || decide ((x.2.1 : Int) + x.delta 1 < 48) || decide (102 < ((max x.1 128 : Nat) : Int) + x.delta 1) || (decide (57 < ((max x.1 128 : Nat) : Int) + x.delta 1) && decide ((x.2.1 : Int) + x.delta 1 < 97))
theorem rowsOff : Lib.caseT.all rowOff = true := by decide
theorem caseA_off (i : Nat) (hi : i < Lib.caseA.size) : rowOff (Lib.caseA.getD i (0, 0, 0, 0, 0)) = true := by
  have hm : Lib.caseA.getD i (0, 0, 0, 0, 0) ∈ Lib.caseT := by
    unfold Lib.caseA at hi ⊢
    simp only [List.size_toArray] at hi
    simp [Array.getD, hi]
  exact List.all_eq_true.1 rowsOff _ hm
/-- A number that is a digit's. -/
def hexZ (v : Int) : Prop := (48 ≤ v ∧ v ≤ 57) ∨ (97 ≤ v ∧ v ≤ 102)
theorem lower_off {r : Int} (h : 128 ≤ r) : ¬ hexZ (Lib.toLowerU r) := by
  unfold Lib.toLowerU hexZ
  rw [if_neg (by omega)]
  unfold Lib.toR Lib.lookupGo
  cases hi : Lib.lookupIdx Lib.caseA r (Lib.caseA.size + 1) 0 Lib.caseA.size with
  | none =>
    show ¬ ((48 ≤ r ∧ r ≤ 57) ∨ (97 ≤ r ∧ r ≤ 102))
    omega
  | some i =>
    obtain ⟨hil, hlo, hhi⟩ := Lib.lookupIdx_some Lib.caseA r _ _ _ i hi
    have hr := caseA_off i hil
    show ¬ ((48 ≤ Lib.convertR 1 r (Lib.caseA.getD i (0, 0, 0, 0, 0)) ∧ Lib.convertR 1 r (Lib.caseA.getD i (0, 0, 0, 0, 0)) ≤ 57) ∨ (97 ≤ Lib.convertR 1 r (Lib.caseA.getD i (0, 0, 0, 0, 0)) ∧ Lib.convertR 1 r (Lib.caseA.getD i (0, 0, 0, 0, 0)) ≤ 102))
    generalize Lib.caseA.getD i (0, 0, 0, 0, 0) = x at *
    unfold Lib.convertR
    unfold rowOff at hr
    split at hr
    · rename_i hd
      rw [if_pos hd]
      simp at hr
      omega
    · rename_i hd
      rw [if_neg hd]
      simp only [Bool.or_eq_true, Bool.and_eq_true, decide_eq_true_eq] at hr
      omega
theorem dgV_lt {c : Nat} (h : ¬ hexZ c) : dgV c < 0 := by
  unfold hexZ at h
  unfold dgV
  rw [if_neg (by omega), if_neg (by omega)]
  omega
/-- What is written of a sign that is no digit begins with a byte that is no digit. -/
theorem enc_off {r : Int} (h0 : 0 ≤ r) (h : ¬ hexZ r) : ∃ b ∈ Lib.encodeRune r, dgV b.toNat < 0 := by
  unfold Lib.encodeRune Lib.encodeRuneZ
  have big : ∀ n : Int, 128 ≤ n → n < 256 → dgV n.toNat.toUInt8.toNat < 0 := fun n h1 h2 => by
    have e : n.toNat.toUInt8.toNat = n.toNat := by
      show (UInt8.ofNat n.toNat).toNat = n.toNat
      rw [UInt8.toNat_ofNat']
      omega
    rw [e]
    apply dgV_lt
    unfold hexZ
    omega
  split
  · rename_i h1
    refine ⟨r.toNat.toUInt8, by simp, ?_⟩
    have e : r.toNat.toUInt8.toNat = r.toNat := by
      show (UInt8.ofNat r.toNat).toNat = r.toNat
      rw [UInt8.toNat_ofNat']
      omega
    rw [e]
    apply dgV_lt
    rw [Int.toNat_of_nonneg h0]
    exact h
  · split
    · exact ⟨_, by simp, big (192 + r / 64) (by omega) (by omega)⟩
    · split
      · exact ⟨_, by simp, big (224 + r / 4096) (by omega) (by omega)⟩
      · split
        · exact ⟨_, by simp, big (240 + r / 262144) (by omega) (by omega)⟩
        · exact ⟨_, by simp, big 239 (by omega) (by omega)⟩
theorem decode_high (b : UInt8) (t : List UInt8) (h : 128 ≤ b.toNat) : 128 ≤ (Lib.decodeL (b :: t)).1 ∧ (Lib.decodeL (b :: t)).1 ≤ 1114111 := by
  unfold Lib.decodeL
  rw [Lib.decode_at]
  have e : (ByteArray.mk (b :: t).toArray).get! 0 = b := rfl
  rw [e]
  have h0 := b.toNat_lt
  have h1 := ((ByteArray.mk (b :: t).toArray).get! (0 + 1)).toNat_lt
  have h2 := ((ByteArray.mk (b :: t).toArray).get! (0 + 2)).toNat_lt
  have h3 := ((ByteArray.mk (b :: t).toArray).get! (0 + 3)).toNat_lt
  generalize ((ByteArray.mk (b :: t).toArray).get! (0 + 1)).toNat = b1 at *
  generalize ((ByteArray.mk (b :: t).toArray).get! (0 + 2)).toNat = b2 at *
  generalize ((ByteArray.mk (b :: t).toArray).get! (0 + 3)).toNat = b3 at *
  generalize b.toNat = b0 at *
  unfold Lib.decodeN
  repeat' split
  all_goals simp
  all_goals omega
theorem lower_bad : ∀ (l : List UInt8), (∃ b ∈ l, 128 ≤ b.toNat) → ∃ b ∈ Lib.toLowerD l, dgV b.toNat < 0
  | [], h => by obtain ⟨b, hb, _⟩ := h; simp at hb
  | b :: t, h => by
    unfold Lib.toLowerD
    rw [Lib.mapD_step Lib.toLowerU (b :: t) (by simp)]
    by_cases hb : b.toNat < 128
    · rw [Lib.decodeL_ascii b t hb]
      obtain ⟨c, hc, h2⟩ := h
      have hct : c ∈ t := by
        rcases List.mem_cons.1 hc with rfl | hc
        · omega
        · exact hc
      obtain ⟨x, hx, hx2⟩ := lower_bad t ⟨c, hct, h2⟩
      exact ⟨x, List.mem_append_right _ (by simpa [Lib.toLowerD] using hx), hx2⟩
    · have hd := decode_high b t (by omega)
      have hr := Lib.toLowerU_range (Lib.decodeL (b :: t)).1 hd.2
      rw [if_pos hr.1]
      obtain ⟨x, hx, hx2⟩ := enc_off hr.1 (lower_off (by omega))
      exact ⟨x, List.mem_append_left _ hx, hx2⟩
theorem lower_one (b : UInt8) (h : b.toNat < 128) : dgV (Lib.lowerB b).toNat = hxV b.toNat := by
  have : ∀ i : Fin 128, dgV (Lib.lowerB (UInt8.ofNat i.val)).toNat = hxV (UInt8.ofNat i.val).toNat := by decide
  have h2 := this ⟨b.toNat, h⟩
  simpa using h2
end Go.Proofs.YtbfddabljkoapaaGreatDoor

/-
  Unquote of the reference: what a backslash begins.
-/
namespace Go.Proofs.YtbfddabljkoapaaGreatDoor
open Go.RowKit
set_option linter.unusedVariables false
set_option linter.unusedSimpArgs false
set_option maxRecDepth 100000

set_option maxHeartbeats 400000 in
theorem specEscO (s : ByteArray) (i c : Nat) (w : World) (hs : s.size ≤ 1048576) (h1 : i + 1 < s.size) (hc : s[i + 1].toNat = c) (h0 : ¬ c = 0) (h47 : ¬ c = 47) (h117 : ¬ c = 117) :
    Calls Tryz.prog 61 #[.string s, .int .i64 ((i : Int) + 1)] w fun e w' => e = .returned (.tuple #[.string (escB s i), .int .i64 (escE s i)]) ∧ Below w.heap.size w w' := by
  have hc' : (s.get! (i + 1)).toNat = c := by rw [← get_get! s (i + 1) h1]; exact hc
  have hu : c < 256 := by rw [← hc]; exact UInt8.toNat_lt _
  have hx : ((i : Int) + 1).toNat = i + 1 := by omega
  have hl := lit1 (P := Tryz.prog) 22 9 5 Tryz.underlying22 Tryz.underlying5 Tryz.underlying9
  have HEH : Hid (∀ b, shortOf b = c → escB s i = str [UInt8.ofNat b] ∧ escE s i = ((i + 2 : Nat) : Int)) := Lib.hid (fun b h => by
    have h3 := short_long (b := b) (by omega)
    rw [h] at h3
    have hb0 : b ≠ 0 := by
      rintro rfl
      exact h0 h.symm
    have h2 := esc_some (esc_long h1 hc' (by omega))
    have h4 := h3.1
    rw [h4] at h2
    exact h2)
  have HEN : Hid ((∀ b, b < 128 → shortOf b ≠ c) → escB s i = ⟨#[]⟩ ∧ escE s i = -1) := Lib.hid (fun h => esc_none (esc_bad h1 hc' (by
    rcases Nat.eq_zero_or_pos (longOf c) with h2 | h2
    · exact h2
    · exact absurd (long_short (by omega) h47) (h _ (longOf_lt c))) h117))
  have hz0 : ¬ (c : Int) = 0 := by omega
  have hz1 : ¬ (c : Int) = 117 := by omega
  have hz4 : ((c : Int) == 47) = false := by simp; omega
  have hz5 : ((c : Int) != 0) = true := by simp; omega
  have hz6 : ((c : Int) != 117) = true := by simp; omega
  clear hc'
  go_enter Tryz.func61, Tryz.ntmps61
  go_wp2_with fail
  go_loopw [6] (fun v wr => ∃ b : Nat, b ≤ 128 ∧ v = .int .i64 b ∧ Hid (∀ k, k < b → shortOf k ≠ c) ∧ Below w.heap.size w wr) (fun v _ => 128 - (intOf v).toNat)
  case atStart => exact ⟨0, by omega, rfl, Lib.hid (fun k hk => by omega), Below.refl _ _⟩
  case round =>
    obtain ⟨b, hb, rfl, HN, hbl⟩ := hrel
    by_cases hlt : b < 128
    · have hsl := short_lt b
      have hw8 : IntKind.u8.wrap (b : Int) = (b : Int) := by rw [IntKind.wrap_u8]; omega
      have hi1 : (0 : Int) ≤ (i : Int) + 1 ∧ (i : Int) + 1 < (s.size : Int) := by omega
      have HSH := Lib.hid (fun W => specShort b (by omega) W)
      by_cases hhit : shortOf b = c
      · have HF := Lib.hid (HEH.out b hhit)
        rw [hhit] at HSH
        have q : ((c : Int) == (c : Int)) = true := by simp
        go_wp2_with fail
        go_region_held3 (fun _ => True) (exact trivial) (first | (go_at_call 68; refine (HSH.out _).mono ?_; rintro e w2 ⟨rfl, hb2⟩))
        all_goals
          have hb3 := hbl.drew.trans (hb2.mono (by first | exact hbl.size | exact hbl.drew.size))
          go_wp2_with fail
          go_ret2
          exact ⟨tupV (congrArg Value.string HF.out.1.symm) (congrArg (Value.int .i64) (by rw [HF.out.2]; omega)), hb3.alloc hb3.size _⟩
      · have HN2 : Hid (∀ k, k < b + 1 → shortOf k ≠ c) := Lib.hid (fun k hk => by
          rcases Nat.lt_or_ge k b with h | h
          · exact HN.out k h
          · obtain rfl : k = b := by omega
            exact hhit)
        have q : ((shortOf b : Int) == (c : Int)) = false := by simp; omega
        generalize shortOf b = x at *
        go_wp2_with fail
        go_region_held3 (fun _ => True) (exact trivial) (first | (go_at_call 68; refine (HSH.out _).mono ?_; rintro e w2 ⟨rfl, hb2⟩))
        all_goals
          have hb3 := hbl.drew.trans (hb2.mono (by first | exact hbl.size | exact hbl.drew.size))
          go_wp2_with fail
          go_roundw
          case rel => exact ⟨b + 1, by omega, by go_num, HN2, hb3⟩
          case measure => simp [intOf]; omega
    · obtain rfl : b = 128 := by omega
      have HF := Lib.hid (HEN.out HN.out)
      go_wp2_with fail
      go_ret2
      exact ⟨tupV (congrArg Value.string HF.out.1.symm) (congrArg (Value.int .i64) HF.out.2.symm), hbl⟩
end Go.Proofs.YtbfddabljkoapaaGreatDoor

/-
  Unquote of the reference: the text behind a quote.
-/
namespace Go.Proofs.YtbfddabljkoapaaGreatDoor
open Go.RowKit
set_option linter.unusedVariables false
set_option linter.unusedSimpArgs false
set_option maxRecDepth 100000

set_option maxHeartbeats 4000000 in
theorem specEscape (s : ByteArray) (i : Nat) (w : World) (hs : s.size ≤ 1048576) (hi : i < s.size) :
    Calls Tryz.prog 61 #[.string s, .int .i64 ((i : Int) + 1)] w fun e w' => e = .returned (.tuple #[.string (escB s i), .int .i64 (escE s i)]) ∧ Below w.heap.size w w' := by
  by_cases h1 : i + 1 < s.size
  · obtain ⟨c, hc⟩ : ∃ c, s[i + 1].toNat = c := ⟨_, rfl⟩
    have hc' : (s.get! (i + 1)).toNat = c := by rw [← get_get! s (i + 1) h1]; exact hc
    have hu : c < 256 := by rw [← hc]; exact UInt8.toNat_lt _
    have hx : ((i : Int) + 1).toNat = i + 1 := by omega
    by_cases h47 : c = 47
    · subst h47
      have HE := Lib.hid (esc_some (esc_long h1 hc' (by decide)))
      clear hc'
      go_enter Tryz.func61, Tryz.ntmps61
      go_wp2_with fail
      go_ret2
      exact ⟨tupV (congrArg Value.string HE.out.1.symm) (congrArg (Value.int .i64) HE.out.2.symm), Below.refl _ _⟩
    · by_cases h0 : c = 0
      · subst h0
        have HE := Lib.hid (esc_none (esc_bad h1 hc' (by decide) (by decide)))
        clear hc'
        go_enter Tryz.func61, Tryz.ntmps61
        go_wp2_with fail
        go_loopw [6] (fun v wr => ∃ b : Nat, b ≤ 128 ∧ v = .int .i64 b ∧ Below w.heap.size w wr) (fun v _ => 128 - (intOf v).toNat)
        case atStart => exact ⟨0, by omega, rfl, Below.refl _ _⟩
        case round =>
          obtain ⟨b, hb, rfl, hbl⟩ := hrel
          by_cases hlt : b < 128
          · go_wp2_with fail
            go_quiet (fail)
            go_wp2_with fail
            go_roundw
            case rel => exact ⟨b + 1, by omega, by go_num, below_drewN hbl _⟩
            case measure => simp [intOf]; omega
          · obtain rfl : b = 128 := by omega
            go_wp2_with fail
            go_ret2
            exact ⟨tupV (congrArg Value.string HE.out.1.symm) (congrArg (Value.int .i64) HE.out.2.symm), hbl⟩
      · by_cases h117 : c = 117
        · subst h117
          have hz1 := unitZ_range s (i + 2)
          have hz2 := unitZ_range s (i + 8)
          have HU1 := Lib.hid (fun w => specUnit s (i + 2) w hs (by omega))
          have HU2 := Lib.hid (fun w => specUnit s (i + 8) w hs (by omega))
          have HE1 := Lib.hid (fun h2 h3 h4 => esc_some (esc_two h1 hc' h2 h3 h4))
          have HE2 := Lib.hid (fun h2 h3 => esc_none (esc_lone h1 hc' h2 h3))
          have HE3 := Lib.hid (fun h2 h3 => esc_some (esc_one h1 hc' h2 h3))
          have HE4 := Lib.hid (fun h2 h3 => esc_none (esc_off h1 hc' h2 h3))
          generalize unitZ s (i + 2) = n at *
          generalize unitZ s (i + 8) = m at *
          clear hc'
          go_enter Tryz.func61, Tryz.ntmps61
          go_wp2_with fail
          go_loopw [6] (fun v wr => ∃ b : Nat, b ≤ 128 ∧ v = .int .i64 b ∧ Below w.heap.size w wr) (fun v _ => 128 - (intOf v).toNat)
          case atStart => exact ⟨0, by omega, rfl, Below.refl _ _⟩
          case round =>
            obtain ⟨b, hb, rfl, hbl⟩ := hrel
            by_cases hlt : b < 128
            · go_wp2_with fail
              go_quiet (fail)
              go_wp2_with fail
              go_roundw
              case rel => exact ⟨b + 1, by omega, by go_num, below_drewN hbl _⟩
              case measure => simp [intOf]; omega
            · obtain rfl : b = 128 := by omega
              go_wp2_with fail
              refine (HU1.out _).mono ?_
              rintro e w1 ⟨rfl, rfl⟩
              by_cases hn : 55296 ≤ n ∧ n ≤ 56319
              · have hd1 : decide (55296 ≤ n) = true := by simp; omega
                have hd2 : decide (n ≤ 56319) = true := by simp; omega
                have hns : isSg n = false := by unfold isSg; simp; omega
                have hz0 : (signB n) = ⟨#[]⟩ := by unfold signB; rw [if_neg (by rw [hns]; decide)]
                by_cases h8 : i + 8 ≤ s.size
                · by_cases hq : (s.get! (i + 6)).toNat = 92 ∧ (s.get! (i + 7)).toNat = 117
                  · have q : ((s.extract (i + 1 + 5) (i + 1 + 7)).toList == [92, 117]) = true := by
                      have := ext_two s (i + 6) (by omega) 92 117
                      rw [this, decide_eq_true_iff]
                      exact ⟨UInt8.toNat_inj.1 hq.1, UInt8.toNat_inj.1 hq.2⟩
                    go_wp2_with (first | (go_at_call 67; go_in) | fail)
                    refine (HU2.out _).mono ?_
                    rintro e w2 ⟨rfl, rfl⟩
                    by_cases hm : 56320 ≤ m ∧ m ≤ 57343
                    · have hd3 : decide (56320 ≤ m) = true := by simp; omega
                      have hd4 : decide (m ≤ 57343) = true := by simp; omega
                      have HF := Lib.hid (HE1.out hn ⟨h8, hq⟩ hm)
                      go_wp2_with (first | (go_at_call 67; go_in) | fail)
                      refine (specPutSign _ _ ⟨by omega, by omega⟩).mono ?_
                      rintro e w3 ⟨rfl, hb3⟩
                      go_wp2_with fail
                      go_ret2
                      exact ⟨tupV (congrArg Value.string (by rw [HF.out.1]; unfold pairZ; congr 1)) (congrArg (Value.int .i64) (by rw [HF.out.2]; omega)), hbl.trans (hb3.mono hbl.size)⟩
                    · have HF := Lib.hid (HE2.out hn (fun h => hm ⟨h.2.2.2.1, h.2.2.2.2⟩))
                      have hin : (decide (56320 ≤ m) = false) ∨ (decide (56320 ≤ m) = true ∧ decide (m ≤ 57343) = false) := by simp; omega
                      rcases hin with hd3 | ⟨hd3, hd4⟩
                      all_goals
                        go_wp2_with (first | (go_at_call 67; go_in) | fail)
                        refine (specPutSign n _ ⟨by omega, by omega⟩).mono ?_
                        rintro e w3 ⟨rfl, hb3⟩
                        rw [hz0]
                        go_wp2_with fail
                        go_ret2
                        exact ⟨tupV (congrArg Value.string HF.out.1.symm) (congrArg (Value.int .i64) HF.out.2.symm), hbl.trans (hb3.mono hbl.size)⟩
                  · have q : ((s.extract (i + 1 + 5) (i + 1 + 7)).toList == [92, 117]) = false := by
                      have := ext_two s (i + 6) (by omega) 92 117
                      rw [this, decide_eq_false_iff_not]
                      intro h
                      exact hq ⟨by rw [h.1]; rfl, by rw [h.2]; rfl⟩
                    have HF := Lib.hid (HE2.out hn (fun h => hq ⟨h.2.1, h.2.2.1⟩))
                    go_wp2_with (first | (go_at_call 67; go_in) | fail)
                    refine (specPutSign n _ ⟨by omega, by omega⟩).mono ?_
                    rintro e w3 ⟨rfl, hb3⟩
                    rw [hz0]
                    go_wp2_with fail
                    go_ret2
                    exact ⟨tupV (congrArg Value.string HF.out.1.symm) (congrArg (Value.int .i64) HF.out.2.symm), hbl.trans (hb3.mono hbl.size)⟩
                · have HF := Lib.hid (HE2.out hn (fun h => h8 h.1))
                  have h8' : (s.size : Int) < (i : Int) + 1 + 7 := by omega
                  go_wp2_with (first | (go_at_call 67; go_in) | fail)
                  refine (specPutSign n _ ⟨by omega, by omega⟩).mono ?_
                  rintro e w3 ⟨rfl, hb3⟩
                  rw [hz0]
                  go_wp2_with fail
                  go_ret2
                  exact ⟨tupV (congrArg Value.string HF.out.1.symm) (congrArg (Value.int .i64) HF.out.2.symm), hbl.trans (hb3.mono hbl.size)⟩
              · have hin : (decide (55296 ≤ n) = false) ∨ (decide (55296 ≤ n) = true ∧ decide (n ≤ 56319) = false) := by simp; omega
                cases hsg : isSg n with
                | false =>
                  have HF := Lib.hid (HE4.out hn hsg)
                  have hz0 : (signB n) = ⟨#[]⟩ := by unfold signB; rw [if_neg (by rw [hsg]; decide)]
                  rcases hin with hd1 | ⟨hd1, hd2⟩
                  all_goals
                    go_wp2_with (first | (go_at_call 67; go_in) | fail)
                    refine (specPutSign n _ ⟨by omega, by omega⟩).mono ?_
                    rintro e w3 ⟨rfl, hb3⟩
                    rw [hz0]
                    go_wp2_with fail
                    go_ret2
                    exact ⟨tupV (congrArg Value.string HF.out.1.symm) (congrArg (Value.int .i64) HF.out.2.symm), hbl.trans (hb3.mono hbl.size)⟩
                | true =>
                  have HF := Lib.hid (HE3.out hn hsg)
                  have hne : ((signB n).toList == []) = false := by
                    rw [beq_eq_false_iff_ne, ByteArray.toList_eq]
                    intro h
                    have := (signB_nil n).1 (by rw [Lib.size_eq, h]; rfl)
                    rw [hsg] at this
                    cases this
                  rcases hin with hd1 | ⟨hd1, hd2⟩
                  all_goals
                    go_wp2_with (first | (go_at_call 67; go_in) | fail)
                    refine (specPutSign n _ ⟨by omega, by omega⟩).mono ?_
                    rintro e w3 ⟨rfl, hb3⟩
                    go_wp2_with fail
                    refine (specPutSign n _ ⟨by omega, by omega⟩).mono ?_
                    rintro e w4 ⟨rfl, hb4⟩
                    have hbl3 := hbl.trans (hb3.mono hbl.size)
                    go_wp2_with fail
                    go_ret2
                    exact ⟨tupV (congrArg Value.string HF.out.1.symm) (congrArg (Value.int .i64) (by rw [HF.out.2]; omega)), hbl3.trans (hb4.mono hbl3.size)⟩
        · exact specEscO s i c w hs h1 hc h0 h47 h117
  · have HE := Lib.hid (esc_none (esc_end (s := s) (i := i) (by omega)))
    go_enter Tryz.func61, Tryz.ntmps61
    go_wp2_with fail
    go_ret2
    exact ⟨tupV (congrArg Value.string HE.out.1.symm) (congrArg (Value.int .i64) HE.out.2.symm), Below.refl _ _⟩
end Go.Proofs.YtbfddabljkoapaaGreatDoor

/-
  Unquote of the reference: the text behind a quote.
-/
namespace Go.Proofs.YtbfddabljkoapaaGreatDoor
open Go.RowKit
set_option linter.unusedVariables false
set_option linter.unusedSimpArgs false
set_option maxRecDepth 100000

theorem gsN_range (s : ByteArray) (i : Nat) : -1 ≤ gsN s (i : Int) ∧ gsN s (i : Int) < 4294967296 := by
  by_cases h : gsOk s (i : Int)
  · have := dec_w s i
    rw [(gs_yes' h).1]
    omega
  · rw [(gs_no h).1]; omega
theorem str_add (a b : List UInt8) : str a ++ str b = str (a ++ b) := by
  apply ByteArray.ext
  simp [str]
theorem str_self (s : ByteArray) : str s.data.toList = s := by
  apply ByteArray.ext
  simp [str]
theorem escB_size (s : ByteArray) (i : Nat) (h : i < s.size) : (escB s i).size ≤ s.size := by
  cases he : escAt s i with
  | none => rw [(esc_none he).1]; exact Nat.zero_le _
  | some p =>
    obtain ⟨t, n⟩ := p
    have h1 := escAt_place he
    have h2 := escAt_len he
    rw [(esc_some he).1]
    omega

set_option maxHeartbeats 4000000 in
theorem specUnquote (s : ByteArray) (i : Int) (w : World) (hs : s.size ≤ 1048576) (hi : -9223372036854775808 ≤ i ∧ i ≤ 9223372036854775807) :
    Calls Tryz.prog 11 #[.string s, .int .i64 i] w fun e w' => e = .returned (.tuple #[.string (unqB s i), .int .i64 (unqE s i)]) ∧ Below w.heap.size w w' := by
  by_cases hin : 0 ≤ i ∧ i < s.size
  · obtain ⟨h0, h1⟩ := hin
    obtain ⟨i, rfl⟩ := Int.eq_ofNat_of_zero_le h0
    have hlt0 : i < s.size := by omega
    have hg0 := get_get! s i hlt0
    by_cases h34 : s[i].toNat = 34
    · have q1 : decide ((i : Int) < 0) = false := by simp
      have q2 : decide ((s.size : Int) ≤ (i : Int)) = false := by simp; omega
      have q3 : decide (s.size ≤ i) = false := by simp; omega
      have HST := Lib.hid (unqTo_start (s := s) (a := (i : Int)) ⟨h0, h1, by rw [Int.toNat_natCast, ← hg0]; exact h34⟩)
      rw [Int.toNat_natCast] at HST
      clear hg0
      go_enter Tryz.func11, Tryz.ntmps11
      go_wp2_with fail
      go_loopw [1, 6] (fun k o wr => ∃ (j : Nat) (out : List UInt8), Hid (UnqTo s (i : Int) j out) ∧ k = .int .i64 j ∧ o = .string (str out) ∧ Below w.heap.size w wr) (fun k _ _ => s.size - (intOf k).toNat)
      case atStart => exact ⟨i + 1, [], HST, by go_num, rfl, Below.refl _ _⟩
      case round =>
        obtain ⟨j, out, HU, rfl, rfl, hb⟩ := hrel
        have hle := HU.out.1
        have hol : (str out).size ≤ 1048576 := by rw [str_len]; have := HU.out.2.1; omega
        by_cases hlt : j < s.size
        · have hg := get_get! s j hlt
          have hgi := Lib.hid hg
          have hu : s[j].toNat < 256 := UInt8.toNat_lt _
          by_cases hq : s[j].toNat = 34
          · have HF := Lib.hid (unqTo_shut HU.out hlt (by rw [← hg]; exact hq))
            clear hg
            go_wp2_with fail
            go_ret2
            exact ⟨tupV (congrArg Value.string HF.out.1.symm) (congrArg (Value.int .i64) HF.out.2.symm), hb⟩
          · have hq1 : ((s[j].toNat : Int) != 34) = true := by simp; omega
            have hn := gsN_range s j
            by_cases h92 : s[j].toNat = 92
            · have HC := Lib.hid (fun W => specEscape s j W hs hlt)
              have hes := escB_size s j hlt
              cases he : escAt s j with
              | none =>
                have HF := Lib.hid (unqTo_escBad HU.out hlt (by rw [← hg]; exact h92) he)
                have HN := Lib.hid (esc_none he)
                clear hg he
                go_wp2_with fail
                refine (specGetSign s j _ hs ⟨by omega, by omega⟩).mono ?_
                rintro e w1 ⟨rfl, hb1⟩
                have b1 := hb.trans (hb1.mono hb.size)
                generalize gsN s (j : Int) = n at *
                generalize gsE s (j : Int) = ne at *
                go_wp2_with fail
                refine (specPutSign n _ ⟨by omega, by omega⟩).mono ?_
                rintro e w2 ⟨rfl, hb2⟩
                have b2 := b1.trans (hb2.mono b1.size)
                go_wp2_with fail
                refine (HC.out _).mono ?_
                rintro e w3 ⟨rfl, hb3⟩
                have b3 := b2.trans (hb3.mono b2.size)
                rw [HN.out.1, HN.out.2]
                go_wp2_with fail
                go_ret2
                exact ⟨tupV (congrArg Value.string HF.out.1.symm) (congrArg (Value.int .i64) HF.out.2.symm), b3⟩
              | some p =>
                obtain ⟨t, k⟩ := p
                have HN := Lib.hid (esc_some he)
                have HX := Lib.hid (unqTo_esc HU.out hlt (by rw [← hg]; exact h92) he)
                have hpl := escAt_place he
                have hts : t.size ≤ 1048576 := by rw [← (esc_some he).1]; omega
                clear hg he hes
                go_wp2_with fail
                refine (specGetSign s j _ hs ⟨by omega, by omega⟩).mono ?_
                rintro e w1 ⟨rfl, hb1⟩
                have b1 := hb.trans (hb1.mono hb.size)
                generalize gsN s (j : Int) = n at *
                generalize gsE s (j : Int) = ne at *
                go_wp2_with fail
                refine (specPutSign n _ ⟨by omega, by omega⟩).mono ?_
                rintro e w2 ⟨rfl, hb2⟩
                have b2 := b1.trans (hb2.mono b1.size)
                go_wp2_with fail
                refine (HC.out _).mono ?_
                rintro e w3 ⟨rfl, hb3⟩
                have b3 := b2.trans (hb3.mono b2.size)
                rw [HN.out.1, HN.out.2]
                go_wp2_with fail
                go_roundw
                case rel => exact ⟨k, out ++ t.data.toList, HX, rfl, by rw [← str_add, str_self], b3⟩
                case measure => simp [intOf]; omega
            · have hq2 : ((s[j].toNat : Int) == 92) = false := by simp; omega
              by_cases hok : gsOk s (j : Int) ∧ 32 ≤ s[j].toNat
              · obtain ⟨hok, h32⟩ := hok
                have h32i : decide ((s[j].toNat : Int) < 32) = false := by simp; omega
                have HY := Lib.hid (gs_yes' hok)
                have HP := Lib.hid (sign_piece hlt hok)
                have HX := Lib.hid (unqTo_sign HU.out hlt (by rw [← hg]; exact hq) (by rw [← hg]; exact h92) hok (by rw [← hg]; exact h32))
                have hd := dec_w s j
                have hdl := dec_le s j hlt
                have hsl := signB_len ((Utf8.decode s j).1 : Int)
                clear hg hn
                go_wp2_with fail
                refine (specGetSign s j _ hs ⟨by omega, by omega⟩).mono ?_
                rintro e w1 ⟨rfl, hb1⟩
                have b1 := hb.trans (hb1.mono hb.size)
                rw [HY.out.1, HY.out.2]
                have hcp := fun W => specPutSign ((Utf8.decode s j).1 : Int) W ⟨by omega, by omega⟩
                have HCP := Lib.hid hcp
                clear hcp
                obtain ⟨d, hdd⟩ : ∃ d, (Utf8.decode s j).2 = d := ⟨_, rfl⟩
                obtain ⟨n, hnn⟩ : ∃ n, (Utf8.decode s j).1 = n := ⟨_, rfl⟩
                rw [hdd] at hd hdl HX HP ⊢
                rw [hnn] at hd hsl HCP HP ⊢
                obtain ⟨k, hk⟩ : ∃ k, j + d = k := ⟨_, rfl⟩
                rw [show (j : Int) + (d : Int) = (k : Int) by omega]
                have hjk : j < k := by omega
                rw [hk] at HX hdl
                obtain ⟨tb, htb⟩ : ∃ tb, signB (n : Int) = tb := ⟨_, rfl⟩
                rw [htb] at hsl HCP HP
                have htl : tb.size ≤ 1048576 := by omega
                clear hdd hnn HY hk hd h32 htb hsl
                go_wp2_with fail
                refine (HCP.out _).mono ?_
                rintro e w2 ⟨rfl, hb2⟩
                have b2 := b1.trans (hb2.mono b1.size)
                go_wp2_with fail
                go_roundw
                case rel => exact ⟨k, out ++ piece s j d, HX, rfl, by rw [← str_add, ← HP.out.2, str_self], b2⟩
                case measure => simp [intOf]; omega
              · have HF := Lib.hid (unqTo_bad HU.out hlt (by rw [← hg]; exact hq) (by rw [← hg]; exact h92) (by rw [← hg]; exact hok))
                by_cases hgo : gsOk s (j : Int)
                · have h32 : (s[j].toNat : Int) < 32 := by
                    have : ¬ 32 ≤ s[j].toNat := fun h => hok ⟨hgo, h⟩
                    omega
                  have HY := Lib.hid (gs_yes' hgo)
                  have hd := dec_w s j
                  clear hg
                  go_wp2_with fail
                  refine (specGetSign s j _ hs ⟨by omega, by omega⟩).mono ?_
                  rintro e w1 ⟨rfl, hb1⟩
                  have b1 := hb.trans (hb1.mono hb.size)
                  rw [HY.out.2]
                  generalize gsN s (j : Int) = n at *
                  obtain ⟨d, hdd⟩ : ∃ d, (Utf8.decode s j).2 = d := ⟨_, rfl⟩
                  rw [hdd] at hd ⊢
                  clear hdd HY
                  go_wp2_with fail
                  refine (specPutSign n _ ⟨by omega, by omega⟩).mono ?_
                  rintro e w2 ⟨rfl, hb2⟩
                  have b2 := b1.trans (hb2.mono b1.size)
                  go_wp2_with fail
                  go_ret2
                  exact ⟨tupV (congrArg Value.string HF.out.1.symm) (congrArg (Value.int .i64) HF.out.2.symm), b2⟩
                · have HY := Lib.hid (gs_no hgo)
                  clear hg
                  go_wp2_with fail
                  refine (specGetSign s j _ hs ⟨by omega, by omega⟩).mono ?_
                  rintro e w1 ⟨rfl, hb1⟩
                  have b1 := hb.trans (hb1.mono hb.size)
                  rw [HY.out.2]
                  generalize gsN s (j : Int) = n at *
                  go_wp2_with fail
                  refine (specPutSign n _ ⟨by omega, by omega⟩).mono ?_
                  rintro e w2 ⟨rfl, hb2⟩
                  have b2 := b1.trans (hb2.mono b1.size)
                  go_wp2_with fail
                  go_ret2
                  exact ⟨tupV (congrArg Value.string HF.out.1.symm) (congrArg (Value.int .i64) HF.out.2.symm), b2⟩
        · obtain rfl : j = s.size := by omega
          have HF := Lib.hid (unqTo_end HU.out (Nat.le_refl _))
          go_wp2_with fail
          go_ret2
          exact ⟨tupV (congrArg Value.string HF.out.1.symm) (congrArg (Value.int .i64) HF.out.2.symm), hb⟩
    · have HF := Lib.hid (unq_no (s := s) (a := (i : Int)) (by
        unfold unqP
        rw [if_neg]
        rintro ⟨_, _, h⟩
        rw [Int.toNat_natCast, ← hg0] at h
        exact h34 h))
      have hq1 : ((s[i].toNat : Int) != 34) = true := by simp; omega
      clear hg0
      go_enter Tryz.func11, Tryz.ntmps11
      go_wp2_with fail
      go_ret2
      exact ⟨tupV (congrArg Value.string HF.out.1.symm) (congrArg (Value.int .i64) HF.out.2.symm), Below.refl _ _⟩
  · have HF := Lib.hid (unq_no (s := s) (a := i) (by unfold unqP; rw [if_neg]; rintro ⟨h1, h2, _⟩; exact hin ⟨h1, h2⟩))
    go_enter Tryz.func11, Tryz.ntmps11
    by_cases h0 : i < 0
    · clear hin
      go_wp2_with fail
      go_ret2
      exact ⟨tupV (congrArg Value.string HF.out.1.symm) (congrArg (Value.int .i64) HF.out.2.symm), Below.refl _ _⟩
    · have h1 : (s.size : Int) ≤ i := by omega
      clear hin
      go_wp2_with fail
      go_ret2
      exact ⟨tupV (congrArg Value.string HF.out.1.symm) (congrArg (Value.int .i64) HF.out.2.symm), Below.refl _ _⟩
end Go.Proofs.YtbfddabljkoapaaGreatDoor

/-
  The library's two tables of UTF-8.
-/
namespace Go.Proofs.YtbfddabljkoapaaGreatDoor
open Go.RowKit

/-- The library's tables. -/
def Tabs (w : World) : Prop := Lib.Utf8Tabs 0 1 w
theorem Tabs.below {w w' : World} (h : Tabs w) (hb : Below w.heap.size w w') : Tabs w' := Utf8Tabs_below h hb
end Go.Proofs.YtbfddabljkoapaaGreatDoor

/-
  GetSign of the program: the sign at a place, as the model's own decoder reads it; the library's two tables lie as they were laid.
-/
namespace Go.Proofs.YtbfddabljkoapaaGreatDoor
open Go.RowKit
set_option linter.unusedVariables false

theorem dec_at (s : ByteArray) (i : Nat) (h : i < s.size) : Lib.decodeGo (s.extract i s.size) = Utf8.decode s i := by
  unfold Lib.decodeGo
  rw [if_neg (by rw [Lib.tail_size]; omega), Lib.tail_decode]
  rfl
set_option maxHeartbeats 1000000 in
theorem implGetSign (s : ByteArray) (i : Int) (w : World) (hs : s.size ≤ 1048576) (hi : -9223372036854775808 ≤ i ∧ i ≤ 9223372036854775807) (hT : Tabs w) :
    Calls Tryz.prog 58 #[.string s, .int .i64 i] w fun e w' => e = .returned (.tuple #[.int .i64 (gsN s i), .int .i64 (gsE s i)]) ∧ Below w.heap.size w w' := by
  by_cases h0 : 0 ≤ i
  · obtain ⟨i, rfl⟩ := Int.eq_ofNat_of_zero_le h0
    by_cases h1 : i < s.size
    · have HD := Lib.hid (dec_at s i h1)
      have hw := dec_w s i
      have HT := Lib.hid hT
      clear hT
      have hle : decide ((i : Int) ≤ (s.size : Int) - 1) = true := by simp; omega
      by_cases hok : gsOk s (i : Int)
      · have HY := Lib.hid (gs_yes' hok)
        have hok' := hok
        unfold gsOk at hok'
        rw [Int.toNat_natCast] at hok'
        go_enter Tryz.func58, Tryz.ntmps58
        by_cases hr : (Utf8.decode s i).1 = 65533
        · have hr1 : (((Utf8.decode s i).1 : Int) == 65533) = true := by simp; omega
          have hr2 : decide (((Utf8.decode s i).2 : Int) < 3) = false := by simp; omega
          have HR := Lib.hid hr
          clear hok' hr
          go_wp2_with (first | (go_at_call 56; go_in) | fail)
          refine (Tryz.utf8_DecodeRuneInString _ w HT.out).mono ?_
          rintro e w1 ⟨rfl, hb1⟩
          rw [HD.out]
          generalize Utf8.decode s i = d at *
          go_wp2_with fail
          go_ret2
          exact ⟨tup2 HY.out.1.symm HY.out.2.symm, hb1⟩
        · have hr1 : (((Utf8.decode s i).1 : Int) == 65533) = false := by simp; omega
          have HR := Lib.hid hr
          clear hok' hr
          go_wp2_with (first | (go_at_call 56; go_in) | fail)
          refine (Tryz.utf8_DecodeRuneInString _ w HT.out).mono ?_
          rintro e w1 ⟨rfl, hb1⟩
          rw [HD.out]
          generalize Utf8.decode s i = d at *
          go_wp2_with fail
          go_ret2
          exact ⟨tup2 HY.out.1.symm HY.out.2.symm, hb1⟩
      · have HN := Lib.hid (gs_no hok)
        have hok' := hok
        unfold gsOk at hok'
        rw [Int.toNat_natCast] at hok'
        have hok2 : (Utf8.decode s i).1 = 65533 ∧ (Utf8.decode s i).2 < 3 := by
          refine Classical.byContradiction fun h => hok' ⟨by omega, by omega, h⟩
        have hr1 : (((Utf8.decode s i).1 : Int) == 65533) = true := by simp; omega
        have hr2 : decide (((Utf8.decode s i).2 : Int) < 3) = true := by simp; omega
        clear hok' hok2
        go_enter Tryz.func58, Tryz.ntmps58
        go_wp2_with (first | (go_at_call 56; go_in) | fail)
        refine (Tryz.utf8_DecodeRuneInString _ w HT.out).mono ?_
        rintro e w1 ⟨rfl, hb1⟩
        rw [HD.out]
        generalize Utf8.decode s i = d at *
        go_wp2_with fail
        go_ret2
        exact ⟨tup2 HN.out.1.symm HN.out.2.symm, hb1⟩
    · have HN := Lib.hid (gs_no (s := s) (i := (i : Int)) (fun h => h1 (by have := h.2.1; omega)))
      have hle : decide ((i : Int) ≤ (s.size : Int) - 1) = false := by simp; omega
      go_enter Tryz.func58, Tryz.ntmps58
      go_wp2_with go_in
      go_ret2
      exact ⟨tup2 HN.out.1.symm HN.out.2.symm, Below.refl _ _⟩
  · have HN := Lib.hid (gs_no (s := s) (i := i) (fun h => h0 h.1))
    go_enter Tryz.func58, Tryz.ntmps58
    go_wp2_with go_in
    go_ret2
    exact ⟨tup2 HN.out.1.symm HN.out.2.symm, Below.refl _ _⟩
end Go.Proofs.YtbfddabljkoapaaGreatDoor

/-
  Unquote of the program: four digits.
-/
namespace Go.Proofs.YtbfddabljkoapaaGreatDoor
open Go.RowKit
set_option linter.unusedVariables false
set_option linter.unusedSimpArgs false
set_option maxRecDepth 100000

/-- The library's table of cases. -/
def CaseTab (w : World) : Prop := Lib.CaseVar 6 Lib.caseA w
theorem CaseTab.below {w w' : World} (h : CaseTab w) (hb : Below w.heap.size w w') : CaseTab w' := Lib.CaseVar_below h hb
theorem implDig (c : Nat) (hc : c < 256) (w : World) : Calls Tryz.prog 52 #[.string ⟨#[48, 49, 50, 51, 52, 53, 54, 55, 56, 57, 97, 98, 99, 100, 101, 102]⟩, .int .u8 c] w fun e w' => e = .returned (.int .i64 (dgV c)) ∧ w' = w := by
  have h : Lib.indexByte [48, 49, 50, 51, 52, 53, 54, 55, 56, 57, 97, 98, 99, 100, 101, 102] c.toUInt8 = dgV c := by
    have : ∀ m : Fin 256, Lib.indexByte [48, 49, 50, 51, 52, 53, 54, 55, 56, 57, 97, 98, 99, 100, 101, 102] m.val.toUInt8 = dgV m.val := by decide +kernel
    exact this ⟨c, hc⟩
  refine (Tryz.strings_IndexByte _ c w).mono ?_
  rintro e w' ⟨rfl, rfl⟩
  exact ⟨by rw [← h, Int.toNat_natCast], rfl⟩
/-- What the program's readUnit hands back. -/
def unitQ (s : ByteArray) (i : Nat) : Int := if i + 6 ≤ s.size ∧ (s.get! i).toNat = 92 ∧ (s.get! (i + 1)).toNat = 117 then unitZ s (i + 2) else -1
def unitN (s : ByteArray) (i : Nat) : Int := if unitQ s i < 0 then -1 else ((i + 6 : Nat) : Int)
theorem unitQ_no {s : ByteArray} {i : Nat} (h : unitQ s i = -1) : unitN s i = -1 := by unfold unitN; rw [h]; rfl
theorem drop_one (s : ByteArray) (j : Nat) (hj : j < s.size) : s.data.toList.drop j = s[j] :: s.data.toList.drop (j + 1) := by
  rw [List.drop_eq_getElem_cons (by rw [← Lib.size_eq]; exact hj)]
  rfl
theorem enc_len (r : Int) : (Lib.encodeRune r).length ≤ 4 := by
  unfold Lib.encodeRune
  rw [List.length_map]
  unfold Lib.encodeRuneZ
  repeat' split
  all_goals simp
theorem lower_len (l : List UInt8) : (Lib.toLowerD l).length ≤ 4 * l.length := by
  have h : ∀ n l, (Lib.mapGoD Lib.toLowerU n l).length ≤ 4 * n := by
    intro n
    induction n with
    | zero => intro l; simp [Lib.mapGoD]
    | succ n ih =>
      intro l
      unfold Lib.mapGoD
      split
      · simp
      · rw [List.length_append]
        have h1 := ih (l.drop (Lib.decodeL l).2)
        have h2 : (if 0 ≤ Lib.toLowerU (Lib.decodeL l).1 then Lib.encodeRune (Lib.toLowerU (Lib.decodeL l).1) else []).length ≤ 4 := by
          split
          · exact enc_len _
          · simp
        omega
  exact h _ _
theorem or_dig (a : Int) (k : Int) (ha : 0 ≤ a) (ha2 : a < 65536) (h0 : 0 ≤ k) (h1 : k ≤ 15) : bits .or .i64 (a * 16) k = 16 * a + k := by
  obtain ⟨x, rfl⟩ := Int.eq_ofNat_of_zero_le ha
  obtain ⟨y, rfl⟩ := Int.eq_ofNat_of_zero_le h0
  have e1 : (BitVec.ofInt 64 ((x : Int) * 16)).toNat = x * 16 := by rw [show (x : Int) * 16 = ((x * 16 : Nat) : Int) by omega]; exact ofInt_i64 _ (by omega)
  have e2 := ofInt_i64 y (by omega)
  show IntKind.i64.wrap ((BitVec.ofInt 64 ((x : Int) * 16) ||| BitVec.ofInt 64 (y : Int)).toNat : Int) = _
  rw [BitVec.toNat_or, e1, e2]
  have e3 : x * 16 ||| y = x * 16 + y := by
    have := Nat.shiftLeft_add_eq_or_of_lt (a := x) (b := y) (i := 4) (by omega)
    rw [Nat.shiftLeft_eq] at this
    exact this.symm
  rw [e3, IntKind.wrap_i64]
  omega
theorem prefix_two (s : ByteArray) (i : Nat) (h : i ≤ s.size) : Lib.hasPrefix (s.extract i s.size).data.toList [92, 117] = decide (i + 2 ≤ s.size ∧ (s.get! i).toNat = 92 ∧ (s.get! (i + 1)).toNat = 117) := by
  have e : (s.extract i s.size).data.toList = s.data.toList.drop i := by
    rw [show s.size = i + (s.size - i) by omega, extract_piece]
    unfold piece
    rw [List.take_of_length_le]
    rw [List.length_drop, ← Lib.size_eq]
    omega
  rw [e]
  unfold Lib.hasPrefix
  by_cases h2 : i + 2 ≤ s.size
  · have e1 := drop_one s i (by omega)
    have e2 := drop_one s (i + 1) (by omega)
    rw [e1, e2, get_get! s i (by omega), get_get! s (i + 1) (by omega), Bool.eq_iff_iff, decide_eq_true_iff]
    generalize s.get! i = a
    generalize s.get! (i + 1) = b
    simp only [List.isPrefixOf, Bool.and_eq_true, beq_iff_eq, and_true, h2, true_and]
    constructor
    · rintro ⟨rfl, rfl⟩
      exact ⟨rfl, rfl⟩
    · rintro ⟨h1, h2⟩
      exact ⟨(UInt8.toNat_inj.1 h1).symm, (UInt8.toNat_inj.1 h2).symm⟩
  · rw [decide_eq_false (fun h => h2 h.1)]
    have hl : (s.data.toList.drop i).length < 2 := by rw [List.length_drop, ← Lib.size_eq]; omega
    match hd : s.data.toList.drop i, hl with
    | [], _ => rfl
    | [a], _ => simp [List.isPrefixOf]
    | _ :: _ :: _, hl => simp at hl; omega
theorem unit_piece (s : ByteArray) (i : Nat) (h : i + 6 ≤ s.size) : (s.extract (i + 2) (i + 6)).data.toList = [s.get! (i + 2), s.get! (i + 2 + 1), s.get! (i + 2 + 2), s.get! (i + 2 + 3)] := by
  rw [show i + 6 = i + 2 + 4 by omega, extract_piece]
  have e0 := piece_succ s (i + 2) 0 (by omega)
  have e1 := piece_succ s (i + 2) 1 (by omega)
  have e2 := piece_succ s (i + 2) 2 (by omega)
  have e3 := piece_succ s (i + 2) 3 (by omega)
  rw [e3, e2, e1, e0, get_get! s (i + 2) (by omega), get_get! s (i + 2 + 1) (by omega), get_get! s (i + 2 + 2) (by omega), get_get! s (i + 2 + 3) (by omega)]
  simp [piece]
theorem unit_four (s : ByteArray) (i : Nat) (k : Nat) (hk : k < 4) : [s.get! (i + 2), s.get! (i + 2 + 1), s.get! (i + 2 + 2), s.get! (i + 2 + 3)][k]'hk = s.get! (i + 2 + k) := by
  match k, hk with
  | 0, _ => rfl
  | 1, _ => rfl
  | 2, _ => rfl
  | 3, _ => rfl
/-- What the program reads in small letters: four bytes that are digits as the great and small ones are, or one that is none. -/
theorem unit_lower (s : ByteArray) (i : Nat) (h : i + 6 ≤ s.size) (l : List UInt8) (hl : l = Lib.toLowerD (s.extract (i + 2) (i + 6)).data.toList) :
    (∃ e : l.length = 4, ∀ k (hk : k < 4), dgV (l[k]'(by omega)).toNat = hxV (s.get! (i + 2 + k)).toNat) ∨ ((∃ k, ∃ hk : k < l.length, dgV l[k].toNat < 0) ∧ unitZ s (i + 2) = -1) := by
  have hp := unit_piece s i h
  by_cases ha : ∀ b ∈ (s.extract (i + 2) (i + 6)).data.toList, b.toNat < 128
  · rw [Lib.toLowerD_ascii _ ha] at hl
    have hl2 : l = ([s.get! (i + 2), s.get! (i + 2 + 1), s.get! (i + 2 + 2), s.get! (i + 2 + 3)]).map Lib.lowerB := by rw [hl, hp]; rfl
    refine .inl ⟨by rw [hl2]; rfl, fun k hk => ?_⟩
    have e : l[k]'(by rw [hl2]; exact hk) = Lib.lowerB (s.get! (i + 2 + k)) := by
      simp only [hl2, List.getElem_map]
      rw [unit_four s i k hk]
    rw [e]
    apply lower_one
    apply ha
    rw [hp, ← unit_four s i k hk]
    exact List.getElem_mem _
  · have hx : ∃ b ∈ (s.extract (i + 2) (i + 6)).data.toList, 128 ≤ b.toNat := by
      apply Classical.byContradiction
      intro hn
      exact ha fun b hb => Classical.byContradiction fun h => hn ⟨b, hb, by omega⟩
    refine .inr ⟨?_, ?_⟩
    · obtain ⟨b, hb, h2⟩ := lower_bad _ hx
      rw [← hl] at hb
      obtain ⟨k, hk, rfl⟩ := List.getElem_of_mem hb
      exact ⟨k, hk, h2⟩
    · obtain ⟨b, hb, h2⟩ := hx
      rw [hp] at hb
      obtain ⟨k, hk, rfl⟩ := List.getElem_of_mem hb
      have hk4 : k < 4 := hk
      rw [unit_four s i k hk4] at h2
      apply unitZ_bad hk4
      unfold hxV
      rw [if_neg (by omega), if_neg (by omega), if_neg (by omega)]
      omega
set_option maxHeartbeats 2000000 in
theorem implUnit (s : ByteArray) (i : Nat) (w : World) (hs : s.size ≤ 1048576) (hi : i ≤ s.size) (hT : Tabs w) (hC : CaseTab w) :
    Calls Tryz.prog 101 #[.string s, .int .i64 i] w fun e w' => e = .returned (.tuple #[.int .i64 (unitQ s i), .int .i64 (unitN s i)]) ∧ Below w.heap.size w w' := by
  have hmin : (min (i : Int) (s.size : Int)).toNat = i := by omega
  have hpx := prefix_two s i hi
  have hT0 := Lib.hid hT
  have hC0 := Lib.hid hC
  clear hT hC
  by_cases hgo : i + 6 ≤ s.size ∧ (s.get! i).toNat = 92 ∧ (s.get! (i + 1)).toNat = 117
  · obtain ⟨h6, hb1, hb2⟩ := hgo
    have hQ : unitQ s i = unitZ s (i + 2) := by unfold unitQ; rw [if_pos ⟨h6, hb1, hb2⟩]
    rw [decide_eq_true ⟨by omega, hb1, hb2⟩] at hpx
    have HPX := Lib.hid hpx
    clear hpx
    have hmi2 : ((i : Int) + 2).toNat = i + 2 := by omega
    have hmi6 : ((i : Int) + 6).toNat = i + 6 := by omega
    have HCL := Lib.hid (fun W hV hT => Tryz.strings_ToLower_c (s.extract (i + 2) (i + 6)) W (by simp; omega) hV hT)
    have HLOW := Lib.hid (fun l hl => unit_lower s i h6 l hl)
    have hll : (Lib.toLowerD (s.extract (i + 2) (i + 6)).data.toList).length ≤ 16 := by
      have := lower_len (s.extract (i + 2) (i + 6)).data.toList
      rw [unit_piece s i h6] at this ⊢
      exact this
    obtain ⟨l, hl⟩ : ∃ l, Lib.toLowerD (s.extract (i + 2) (i + 6)).data.toList = l := ⟨_, rfl⟩
    have HL := Lib.hid (HLOW.out l hl.symm)
    rw [hl] at HCL hll
    have HQ := Lib.hid hQ
    have HN : Hid (unitN s i = if unitQ s i < 0 then -1 else ((i + 6 : Nat) : Int)) := Lib.hid rfl
    clear HLOW hl hQ hb1 hb2
    go_enter Tryz.func101, Tryz.ntmps101
    go_wp2_with fail
    refine (Tryz.strings_HasPrefix_c _ _ _).mono ?_
    rintro e w1 ⟨rfl, rfl⟩
    rw [show Lib.hasPrefix (s.extract i s.size).data.toList (ByteArray.mk #[92, 117]).data.toList = true from HPX.out]
    go_wp2_with fail
    refine (HCL.out _ hC0.out hT0.out).mono ?_
    rintro e w2 ⟨rfl, hb2⟩
    have hcv := run_bytes_of_string (P := Tryz.prog) w2 9 22 5 (str l) Tryz.underlying9 Tryz.underlying22 Tryz.underlying5
    rw [str_len] at hcv
    generalize grownCap w2 l.length 0 5 = cap at hcv
    have hc3 : ∀ k (hk : k < l.length), (w2.drew.alloc (.cells (bytesRow (str l) cap) 5 ((bytesRow (str l) cap).size, (bytesRow (str l) cap).size + 1))).cell? ⟨w2.heap.size, k, none⟩ = some (.int .u8 (l[k].toNat : Int)) := fun k hk => by
      have h1 := World.cell?_alloc_mark w2.drew (bytesRow (str l) cap) 5 ((bytesRow (str l) cap).size, (bytesRow (str l) cap).size + 1) k
      have h2 := bytesRow_at (str l) cap k (by simpa [str] using hk)
      exact h1.trans (h2.trans (by simp [str]))
    have hb3 : Below w1.heap.size w1 (w2.drew.alloc (.cells (bytesRow (str l) cap) 5 ((bytesRow (str l) cap).size, (bytesRow (str l) cap).size + 1))) := hb2.drew.alloc hb2.size _
    generalize w2.drew.alloc (.cells (bytesRow (str l) cap) 5 ((bytesRow (str l) cap).size, (bytesRow (str l) cap).size + 1)) = W3 at hcv hc3 hb3
    generalize w2.heap.size = g at hcv hc3
    have HC3 := Lib.hid hc3
    clear hc3
    have hcv2 : (convert 9 22 (.string ⟨l.toArray⟩)).run Tryz.prog w2 = .ok (.slice (some ⟨g, 0, none⟩) l.length cap) W3 := hcv
    clear hcv
    have hli : (l.length : Int) ≤ 16 := by omega
    go_wp2_with fail
    rcases HL.out with ⟨h4, hd⟩ | ⟨hbad, hz⟩
    · have HD : Hid (∀ k (hk : k < 4) (hkl : k < l.length), dgV (l[k]'hkl).toNat = hxV (s.get! (i + 2 + k)).toNat) := Lib.hid (fun k hk _ => hd k hk)
      have H4 := Lib.hid h4
      clear hd h4
      go_loop [6, 34] (fun n k => ∃ j : Nat, j ≤ 4 ∧ k = .int .i64 j ∧ n = .int .i64 (accH s (i + 2) j) ∧ hexTo s (i + 2) j) (fun _ k => 4 - (intOf k).toNat)
      case atStart => exact ⟨0, by omega, rfl, rfl, fun k hk => by omega⟩
      case round =>
        obtain ⟨j, hj, rfl, rfl, hH⟩ := hrel
        by_cases hlt : j < 4
        · have hlj : j < l.length := by have := H4.out; omega
          have hcell := HC3.out j hlj
          have hu : (l[j]).toNat < 256 := UInt8.toNat_lt _
          have hR := accH_range s (i + 2) j (by omega) hH
          have hR2 : accH s (i + 2) j < 65536 := by
            have h16 : (16 : Int) ^ j ≤ 16 ^ 3 := by
              have : j = 0 ∨ j = 1 ∨ j = 2 ∨ j = 3 := by omega
              rcases this with rfl | rfl | rfl | rfl <;> decide
            omega
          have hdj := HD.out j hlt hlj
          have HS : Hid (accH s (i + 2) (j + 1) = 16 * accH s (i + 2) j + hxV (s.get! (i + 2 + j)).toNat) := Lib.hid rfl
          have HG : Hid (0 ≤ hxV (s.get! (i + 2 + j)).toNat → hexTo s (i + 2) (j + 1)) := Lib.hid (fun h k hk => by
            rcases Nat.lt_or_ge k j with h2 | h2
            · exact hH k h2
            · obtain rfl : k = j := by omega
              exact h)
          have HB : Hid (hxV (s.get! (i + 2 + j)).toNat < 0 → unitZ s (i + 2) = -1) := Lib.hid (fun h => unitZ_bad hlt h)
          have hx := hxV_range (s.get! (i + 2 + j)).toNat
          have hcp := fun W => implDig (l[j]).toNat hu W
          rw [hdj] at hcp
          have HCP := Lib.hid hcp
          have hR1 := hR.1
          generalize hxV (s.get! (i + 2 + j)).toNat = x at *
          generalize accH s (i + 2) j = A at *
          have hjl : (j : Int) < (l.length : Int) := by omega
          clear hdj hcp hR hH
          go_wp2_with fail
          refine (HCP.out _).mono ?_
          rintro e w4 ⟨rfl, rfl⟩
          by_cases hneg : x < 0
          · have HU := Lib.hid (HB.out hneg)
            go_wp2_with fail
            go_ret2
            refine ⟨tupV (congrArg (Value.int .i64) ?_) (congrArg (Value.int .i64) ?_), hb3⟩
            · rw [HQ.out, HU.out]
            · rw [HN.out, HQ.out, HU.out]; rfl
          · have hor := or_dig A x hR1 hR2 (by omega) hx.2
            go_wp2_with fail
            go_round
            case rel => exact ⟨j + 1, hlt, by go_num, by rw [HS.out], HG.out (by omega)⟩
            case measure => simp [intOf]; omega
        · obtain rfl : j = 4 := by omega
          have hU : unitZ s (i + 2) = accH s (i + 2) 4 := by unfold unitZ; rw [if_pos ⟨by omega, hH⟩]
          have hR := accH_range s (i + 2) 4 (by omega) hH
          have HU := Lib.hid hU
          have HR := Lib.hid hR.1
          have hj4 : ¬ ((4 : Int) < (l.length : Int)) := by have := H4.out; omega
          clear hH hU hR
          go_wp2_with fail
          go_ret2
          refine ⟨tupV (congrArg (Value.int .i64) ?_) (congrArg (Value.int .i64) ?_), hb3⟩
          · rw [HQ.out, HU.out]
          · have := HR.out
            rw [HN.out, HQ.out, HU.out, if_neg (by omega)]; omega
    · have HB := Lib.hid hbad
      have HZ := Lib.hid hz
      clear hbad hz
      go_loop [6, 34] (fun n k => ∃ j : Nat, j ≤ l.length ∧ k = .int .i64 j ∧ (∃ N : Int, n = .int .i64 N) ∧ Hid (∀ m, m < j → ∀ hm : m < l.length, ¬ dgV (l[m]).toNat < 0)) (fun _ k => l.length - (intOf k).toNat)
      case atStart => exact ⟨0, Nat.zero_le _, rfl, ⟨0, rfl⟩, Lib.hid (fun m hm => by omega)⟩
      case round =>
        obtain ⟨j, hj, rfl, ⟨N, rfl⟩, HA⟩ := hrel
        by_cases hlt : j < l.length
        · have hcell := HC3.out j hlt
          have hu : (l[j]).toNat < 256 := UInt8.toNat_lt _
          have HCP := Lib.hid (fun W => implDig (l[j]).toNat hu W)
          have hjl : (j : Int) < (l.length : Int) := by omega
          have HS : Hid (¬ dgV (l[j]).toNat < 0 → ∀ m, m < j + 1 → ∀ hm : m < l.length, ¬ dgV (l[m]).toNat < 0) := Lib.hid (fun h m hm hm2 => by
            rcases Nat.lt_or_ge m j with h2 | h2
            · exact HA.out m h2 hm2
            · obtain rfl : m = j := by omega
              exact h)
          generalize dgV (l[j]).toNat = x at *
          go_wp2_with fail
          refine (HCP.out _).mono ?_
          rintro e w4 ⟨rfl, rfl⟩
          by_cases hneg : x < 0
          · go_wp2_with fail
            go_ret2
            refine ⟨tupV (congrArg (Value.int .i64) ?_) (congrArg (Value.int .i64) ?_), hb3⟩
            · rw [HQ.out, HZ.out]
            · rw [HN.out, HQ.out, HZ.out]; rfl
          · go_wp2_with fail
            go_round
            case rel => exact ⟨j + 1, hlt, by go_num, ⟨_, rfl⟩, Lib.hid (fun m hm hm2 h => by have := HS.out (by omega) m hm hm2; omega)⟩
            case measure => simp [intOf]; omega
        · exfalso
          obtain ⟨k, hk, h2⟩ := HB.out
          exact HA.out k (by omega) hk h2
  · have hQ : unitQ s i = -1 := by unfold unitQ; rw [if_neg hgo]
    have HQ := Lib.hid hQ
    have HN := Lib.hid (unitQ_no hQ)
    by_cases h6 : i + 6 ≤ s.size
    · rw [decide_eq_false (fun h => hgo ⟨h6, h.2⟩)] at hpx
      have HPX := Lib.hid hpx
      clear hpx hQ hgo
      go_enter Tryz.func101, Tryz.ntmps101
      go_wp2_with fail
      refine (Tryz.strings_HasPrefix_c _ _ _).mono ?_
      rintro e w1 ⟨rfl, rfl⟩
      rw [show Lib.hasPrefix (s.extract i s.size).data.toList (ByteArray.mk #[92, 117]).data.toList = false from HPX.out]
      go_wp2_with fail
      go_ret2
      exact ⟨tupV (congrArg (Value.int .i64) HQ.out.symm) (congrArg (Value.int .i64) HN.out.symm), Below.refl _ _⟩
    · have HPX := Lib.hid hpx
      have h6i : (s.size : Int) < (i : Int) + 6 := by omega
      clear hpx hQ hgo
      go_enter Tryz.func101, Tryz.ntmps101
      go_wp2_with fail
      refine (Tryz.strings_HasPrefix_c _ _ _).mono ?_
      rintro e w1 ⟨rfl, rfl⟩
      rw [show Lib.hasPrefix (s.extract i s.size).data.toList (ByteArray.mk #[92, 117]).data.toList = decide (i + 2 ≤ s.size ∧ (s.get! i).toNat = 92 ∧ (s.get! (i + 1)).toNat = 117) from HPX.out]
      generalize decide (i + 2 ≤ s.size ∧ (s.get! i).toNat = 92 ∧ (s.get! (i + 1)).toNat = 117) = B
      cases B
      all_goals
        go_wp2_with fail
        go_ret2
        exact ⟨tupV (congrArg (Value.int .i64) HQ.out.symm) (congrArg (Value.int .i64) HN.out.symm), Below.refl _ _⟩
end Go.Proofs.YtbfddabljkoapaaGreatDoor

/-
  PutSign of the program: the bytes of a code point.
-/
namespace Go.Proofs.YtbfddabljkoapaaGreatDoor
open Go.RowKit
set_option linter.unusedVariables false

theorem implPutSign (n : Int) (w : World) (h0 : -9223372036854775808 ≤ n ∧ n ≤ 9223372036854775807) :
    Calls Tryz.prog 102 #[.int .i64 n] w fun e w' => e = .returned (.string (signB n)) ∧ w = w' := by
  by_cases h : (0 ≤ n ∧ n < 55296) ∨ (57343 < n ∧ n ≤ 1114111)
  · have hs : signB n = Utf8.encode n := by unfold signB isSg; rw [if_pos (by simp; omega)]
    rw [hs]
    clear hs
    rcases h with h | h
    · have hd : decide (n ≤ 1114111) = true := by simp; omega
      go_enter Tryz.func102, Tryz.ntmps102
      go_wp2_with go_in
      go_ret
      exact ⟨rfl, rfl⟩
    · have hd : decide (n ≤ 1114111) = true := by simp; omega
      go_enter Tryz.func102, Tryz.ntmps102
      go_wp2_with go_in
      go_ret
      exact ⟨rfl, rfl⟩
  · have hs : signB n = ⟨#[]⟩ := by unfold signB isSg; rw [if_neg (by simp; omega)]
    rw [hs]
    clear hs
    rcases (show n < 0 ∨ 1114111 < n ∨ (55296 ≤ n ∧ n ≤ 57343) by omega) with hc | hc | hc
    · clear h
      go_enter Tryz.func102, Tryz.ntmps102
      go_wp2_with go_in
      go_ret
      exact ⟨rfl, rfl⟩
    · clear h
      have hd : decide (n ≤ 1114111) = false := by simp; omega
      go_enter Tryz.func102, Tryz.ntmps102
      go_wp2_with go_in
      go_ret
      exact ⟨rfl, rfl⟩
    · clear h
      have hd : decide (n ≤ 1114111) = true := by simp; omega
      have hd2 : decide (n ≤ 57343) = true := by simp; omega
      go_enter Tryz.func102, Tryz.ntmps102
      go_wp2_with go_in
      go_ret
      exact ⟨rfl, rfl⟩
end Go.Proofs.YtbfddabljkoapaaGreatDoor

/-
  Unquote of the program: what a backslash begins.
-/
namespace Go.Proofs.YtbfddabljkoapaaGreatDoor
open Go.RowKit
set_option linter.unusedVariables false
set_option linter.unusedSimpArgs false
set_option maxRecDepth 100000

theorem implWithin (n lo hi : Int) (w : World) : Calls Tryz.prog 56 #[.int .i64 n, .int .i64 lo, .int .i64 hi] w fun e w' => e = .returned (.bool (decide (lo ≤ n ∧ n ≤ hi))) ∧ w' = w := by
  by_cases h1 : lo ≤ n
  · by_cases h2 : n ≤ hi
    · rw [decide_eq_true ⟨h1, h2⟩]
      have q1 : decide (lo ≤ n) = true := decide_eq_true h1
      have q2 : decide (n ≤ hi) = true := decide_eq_true h2
      clear h1 h2
      go_enter Tryz.func56, Tryz.ntmps56
      go_wp2_with fail
      go_ret
      exact ⟨rfl, rfl⟩
    · rw [decide_eq_false (fun h => h2 h.2)]
      have q1 : decide (lo ≤ n) = true := decide_eq_true h1
      have q2 : decide (n ≤ hi) = false := decide_eq_false h2
      clear h1 h2
      go_enter Tryz.func56, Tryz.ntmps56
      go_wp2_with fail
      go_ret
      exact ⟨rfl, rfl⟩
  · rw [decide_eq_false (fun h => h1 h.1)]
    have q1 : decide (lo ≤ n) = false := decide_eq_false h1
    clear h1
    go_enter Tryz.func56, Tryz.ntmps56
    go_wp2_with fail
    go_ret
    exact ⟨rfl, rfl⟩
theorem implIsSign (n : Int) (w : World) : Calls Tryz.prog 103 #[.int .i64 n] w fun e w' => e = .returned (.bool (isSg n)) ∧ w' = w := by
  by_cases h1 : 0 ≤ n ∧ n ≤ 1114111
  · have hs : isSg n = !decide (55296 ≤ n ∧ n ≤ 57343) := by
      rw [Bool.eq_iff_iff]
      unfold isSg
      simp
      omega
    have HW := Lib.hid (fun W => implWithin n 0 1114111 W)
    rw [decide_eq_true h1] at HW
    have HV := Lib.hid (fun W => implWithin n 55296 57343 W)
    rw [hs]
    generalize decide (55296 ≤ n ∧ n ≤ 57343) = B at *
    clear h1 hs
    go_enter Tryz.func103, Tryz.ntmps103
    go_wp2_with fail
    refine (HW.out _).mono ?_
    rintro e w1 ⟨rfl, rfl⟩
    go_wp2_with fail
    refine (HV.out _).mono ?_
    rintro e w1 ⟨rfl, rfl⟩
    cases B
    all_goals
      go_wp2_with fail
      go_ret
      exact ⟨rfl, rfl⟩
  · have hs : isSg n = false := by
      unfold isSg
      simp
      omega
    have HW := Lib.hid (fun W => implWithin n 0 1114111 W)
    rw [decide_eq_false h1] at HW
    rw [hs]
    clear h1 hs
    go_enter Tryz.func103, Tryz.ntmps103
    go_wp2_with fail
    refine (HW.out _).mono ?_
    rintro e w1 ⟨rfl, rfl⟩
    go_wp2_with fail
    go_ret
    exact ⟨rfl, rfl⟩
theorem letter_cases {c : Nat} (hc : c < 256) : (letterK c = -1 ∧ (longOf c = 0 ∨ c = 47)) ∨ (∃ k : Nat, k < 7 ∧ letterK c = k ∧ longOf c ≠ 0 ∧ (ByteArray.mk #[34, 92, 8, 12, 10, 13, 9]).extract k (k + 1) = str [UInt8.ofNat (longOf c)]) := by
  unfold letterK
  by_cases h0 : c = 34
  · subst h0; exact .inr ⟨0, by decide, by simp, by decide, by rfl⟩
  rw [if_neg h0]
  by_cases h1 : c = 92
  · subst h1; exact .inr ⟨1, by decide, by simp, by decide, by rfl⟩
  rw [if_neg h1]
  by_cases h2 : c = 98
  · subst h2; exact .inr ⟨2, by decide, by simp, by decide, by rfl⟩
  rw [if_neg h2]
  by_cases h3 : c = 102
  · subst h3; exact .inr ⟨3, by decide, by simp, by decide, by rfl⟩
  rw [if_neg h3]
  by_cases h4 : c = 110
  · subst h4; exact .inr ⟨4, by decide, by simp, by decide, by rfl⟩
  rw [if_neg h4]
  by_cases h5 : c = 114
  · subst h5; exact .inr ⟨5, by decide, by simp, by decide, by rfl⟩
  rw [if_neg h5]
  by_cases h6 : c = 116
  · subst h6; exact .inr ⟨6, by decide, by simp, by decide, by rfl⟩
  rw [if_neg h6]
  refine .inl ⟨rfl, ?_⟩
  by_cases h7 : c = 47
  · exact .inr h7
  · left
    unfold longOf
    rw [if_neg h0, if_neg h1, if_neg h2, if_neg h3, if_neg h4, if_neg h5, if_neg h6, if_neg h7]
theorem pair_sg {n m : Int} (h1 : 55296 ≤ n ∧ n ≤ 56319) (h2 : 56320 ≤ m ∧ m ≤ 57343) : isSg (pairZ n m) = true ∧ 0 ≤ pairZ n m ∧ pairZ n m ≤ 1114111 := by
  unfold isSg pairZ
  simp
  omega
/-- What the program's readEscape hands back. -/
def EscOut (s : ByteArray) (i : Nat) (e : Ending) : Prop := ∃ (t : ByteArray) (n : Int) (b : Bool), e = .returned (.tuple #[.string t, .int .i64 n, .bool b]) ∧ ((b = false ∧ escAt s i = none) ∨ (b = true ∧ ∃ k : Nat, n = (k : Int) ∧ escAt s i = some (t, k)))
theorem EscOut.no {s : ByteArray} {i : Nat} {e : Ending} (t : ByteArray) (n : Int) (h : escAt s i = none) (he : e = .returned (.tuple #[.string t, .int .i64 n, .bool false])) : EscOut s i e := ⟨t, n, false, he, .inl ⟨rfl, h⟩⟩
theorem EscOut.yes {s t : ByteArray} {i k : Nat} {e : Ending} (h : escAt s i = some (t, k)) (he : e = .returned (.tuple #[.string t, .int .i64 (k : Int), .bool true])) : EscOut s i e := ⟨t, _, true, he, .inr ⟨rfl, k, rfl, h⟩⟩

set_option maxHeartbeats 4000000 in
theorem implEscape (s : ByteArray) (i : Nat) (w : World) (hs : s.size ≤ 1048576) (hi : i < s.size) (h92 : s[i].toNat = 92) (hT : Tabs w) (hC : CaseTab w) :
    Calls Tryz.prog 57 #[.string s, .int .i64 i] w fun e w' => EscOut s i e ∧ Below w.heap.size w w' := by
  have HT := Lib.hid hT
  have HCT := Lib.hid hC
  clear hT hC
  by_cases h1 : i + 1 < s.size
  · obtain ⟨c, hc⟩ : ∃ c, s[i + 1].toNat = c := ⟨_, rfl⟩
    have hc' : (s.get! (i + 1)).toNat = c := by rw [← get_get! s (i + 1) h1]; exact hc
    have hu : c < 256 := by rw [← hc]; exact UInt8.toNat_lt _
    have hx : ((i : Int) + 1).toNat = i + 1 := by omega
    have HLK := Lib.hid (fun W => implLetter c hu W)
    rcases letter_cases hu with ⟨hk, hl⟩ | ⟨k, hk7, hk, hlo, hex⟩
    · rw [hk] at HLK
      by_cases h47 : c = 47
      · subst h47
        have HE := Lib.hid (esc_long h1 hc' (by decide))
        clear hc' hl hk
        go_enter Tryz.func57, Tryz.ntmps57
        go_wp2_with fail
        refine (HLK.out _).mono ?_
        rintro e w1 ⟨rfl, rfl⟩
        go_wp2_with fail
        go_ret3
        exact ⟨EscOut.yes HE.out rfl, Below.refl _ _⟩
      · have hl0 : longOf c = 0 := by omega
        have hq47 : ((c : Int) == 47) = false := by simp; omega
        have hq92 : (s.get! i).toNat = 92 := by rw [← get_get! s i hi]; exact h92
        by_cases h117 : c = 117
        · subst h117
          have hQ : unitQ s i = unitZ s (i + 2) := by
            by_cases h6 : i + 6 ≤ s.size
            · unfold unitQ; rw [if_pos ⟨h6, hq92, hc'⟩]
            · unfold unitQ unitZ; rw [if_neg (fun h => h6 h.1), if_neg (fun h => by have := h.1; omega)]
          have hz := unitZ_range s (i + 2)
          have hN : 0 ≤ unitZ s (i + 2) → unitN s i = ((i + 6 : Nat) : Int) := fun h => by unfold unitN; rw [hQ, if_neg (by omega)]
          have HU := Lib.hid (fun W hT hC => implUnit s i W hs (by omega) hT hC)
          rw [hQ] at HU
          have hrm : 0 ≤ unitZ s (i + 2) → i + 6 ≤ s.size := fun h => by have := unitZ_room h; omega
          have HRM := Lib.hid hrm
          have HN := Lib.hid hN
          have HE1 := Lib.hid (fun h2 h3 h4 => esc_two h1 hc' h2 h3 h4)
          have HE2 := Lib.hid (fun h2 h3 => esc_lone h1 hc' h2 h3)
          have HE3 := Lib.hid (fun h2 h3 => esc_one h1 hc' h2 h3)
          have HE4 := Lib.hid (fun h2 h3 => esc_off h1 hc' h2 h3)
          have HW := Lib.hid (fun W => implWithin (unitZ s (i + 2)) 55296 56319 W)
          clear hQ hN hrm hc' hq92 hl hl0 hk
          generalize unitZ s (i + 2) = n at *
          by_cases hn : 55296 ≤ n ∧ n ≤ 56319
          · rw [decide_eq_true hn] at HW
            rw [HN.out (by omega)] at HU
            have h6 := HRM.out (by omega)
            have hz8 := unitZ_range s (i + 8)
            have HU2 := Lib.hid (fun W hT hC => implUnit s (i + 6) W hs h6 hT hC)
            have hQ2 : unitQ s (i + 6) = if i + 12 ≤ s.size ∧ (s.get! (i + 6)).toNat = 92 ∧ (s.get! (i + 7)).toNat = 117 then unitZ s (i + 8) else -1 := rfl
            have hN2 : unitN s (i + 6) = if unitQ s (i + 6) < 0 then -1 else ((i + 12 : Nat) : Int) := rfl
            by_cases hpr : (i + 12 ≤ s.size ∧ (s.get! (i + 6)).toNat = 92 ∧ (s.get! (i + 7)).toNat = 117) ∧ 56320 ≤ unitZ s (i + 8) ∧ unitZ s (i + 8) ≤ 57343
            · obtain ⟨hp1, hp2⟩ := hpr
              have HF := Lib.hid (HE1.out hn ⟨by omega, hp1.2⟩ hp2)
              rw [if_pos hp1] at hQ2
              rw [hQ2, if_neg (by omega)] at hN2
              rw [hQ2, hN2] at HU2
              have HPS := Lib.hid (pair_sg hn hp2)
              have HW2 := Lib.hid (fun W => implWithin (unitZ s (i + 8)) 56320 57343 W)
              rw [decide_eq_true hp2] at HW2
              clear hp1 hQ2 hN2 HE1 HE2 HE3 HE4
              generalize unitZ s (i + 8) = m at *
              have hpe : 65536 + 1024 * (n - 55296) + m - 56320 = pairZ n m := rfl
              have HPE := Lib.hid hpe
              have HPSC := Lib.hid (fun W => implPutSign (pairZ n m) W ⟨by have := HPS.out; omega, by have := HPS.out; omega⟩)
              have HISC := Lib.hid (fun W => implIsSign (pairZ n m) W)
              rw [HPS.out.1] at HISC
              clear hpe
              go_enter Tryz.func57, Tryz.ntmps57
              go_wp2_with fail
              refine (HLK.out _).mono ?_
              rintro e w1 ⟨rfl, rfl⟩
              go_wp2_with fail
              refine (HU.out _ HT.out HCT.out).mono ?_
              rintro e w2 ⟨rfl, hb2⟩
              go_wp2_with fail
              refine (HW.out _).mono ?_
              rintro e w3 ⟨rfl, rfl⟩
              go_wp2_with fail
              refine (HU2.out _ (HT.out.below hb2) (HCT.out.below hb2)).mono ?_
              rintro e w4 ⟨rfl, hb4⟩
              have hb5 := hb2.trans (hb4.mono hb2.size)
              go_wp2_with fail
              refine (HW2.out _).mono ?_
              rintro e w5 ⟨rfl, rfl⟩
              go_wp2_with fail
              rw [HPE.out]
              refine (HPSC.out _).mono ?_
              rintro e w6 ⟨rfl, rfl⟩
              go_wp2_with fail
              refine (HISC.out _).mono ?_
              rintro e w7 ⟨rfl, rfl⟩
              go_wp2_with fail
              go_ret3
              exact ⟨EscOut.yes HF.out rfl, hb5⟩
            · have HF := Lib.hid (HE2.out hn (fun h => hpr ⟨⟨by have := unitZ_room (s := s) (i := i + 8) (by omega); omega, h.2.1, h.2.2.1⟩, h.2.2.2⟩))
              have HW2 := Lib.hid (fun W => implWithin (unitQ s (i + 6)) 56320 57343 W)
              have hno : ¬ (56320 ≤ unitQ s (i + 6) ∧ unitQ s (i + 6) ≤ 57343) := by
                intro h
                rw [hQ2] at h
                split at h
                · rename_i h3; exact hpr ⟨h3, h⟩
                · omega
              rw [decide_eq_false hno] at HW2
              clear hQ2 hN2 hno hpr HE1 HE2 HE3 HE4
              generalize unitQ s (i + 6) = m at *
              generalize unitN s (i + 6) = mn at *
              go_enter Tryz.func57, Tryz.ntmps57
              go_wp2_with fail
              refine (HLK.out _).mono ?_
              rintro e w1 ⟨rfl, rfl⟩
              go_wp2_with fail
              refine (HU.out _ HT.out HCT.out).mono ?_
              rintro e w2 ⟨rfl, hb2⟩
              go_wp2_with fail
              refine (HW.out _).mono ?_
              rintro e w3 ⟨rfl, rfl⟩
              go_wp2_with fail
              refine (HU2.out _ (HT.out.below hb2) (HCT.out.below hb2)).mono ?_
              rintro e w4 ⟨rfl, hb4⟩
              have hb5 := hb2.trans (hb4.mono hb2.size)
              go_wp2_with fail
              refine (HW2.out _).mono ?_
              rintro e w5 ⟨rfl, rfl⟩
              go_wp2_with fail
              go_ret3
              exact ⟨EscOut.no _ _ HF.out rfl, hb5⟩
          · rw [decide_eq_false hn] at HW
            have HPSC := Lib.hid (fun W => implPutSign n W ⟨by omega, by omega⟩)
            have HISC := Lib.hid (fun W => implIsSign n W)
            have HNN : Hid (isSg n = true → unitN s i = ((i + 6 : Nat) : Int)) := Lib.hid (fun h => HN.out (isSg_pos h))
            have HF3 := Lib.hid (HE3.out hn)
            have HF4 := Lib.hid (HE4.out hn)
            generalize unitN s i = nx at *
            cases hsg : isSg n with
            | true =>
              rw [hsg] at HISC
              have hnx := HNN.out hsg
              subst hnx
              have HF := Lib.hid (HF3.out hsg)
              clear hsg hn HE1 HE2 HE3 HE4
              go_enter Tryz.func57, Tryz.ntmps57
              go_wp2_with fail
              refine (HLK.out _).mono ?_
              rintro e w1 ⟨rfl, rfl⟩
              go_wp2_with fail
              refine (HU.out _ HT.out HCT.out).mono ?_
              rintro e w2 ⟨rfl, hb2⟩
              go_wp2_with fail
              refine (HW.out _).mono ?_
              rintro e w3 ⟨rfl, rfl⟩
              go_wp2_with fail
              refine (HPSC.out _).mono ?_
              rintro e w6 ⟨rfl, rfl⟩
              go_wp2_with fail
              refine (HISC.out _).mono ?_
              rintro e w7 ⟨rfl, rfl⟩
              go_wp2_with fail
              go_ret3
              exact ⟨EscOut.yes HF.out rfl, hb2⟩
            | false =>
              rw [hsg] at HISC
              have HF := Lib.hid (HF4.out hsg)
              clear hsg hn HE1 HE2 HE3 HE4
              go_enter Tryz.func57, Tryz.ntmps57
              go_wp2_with fail
              refine (HLK.out _).mono ?_
              rintro e w1 ⟨rfl, rfl⟩
              go_wp2_with fail
              refine (HU.out _ HT.out HCT.out).mono ?_
              rintro e w2 ⟨rfl, hb2⟩
              go_wp2_with fail
              refine (HW.out _).mono ?_
              rintro e w3 ⟨rfl, rfl⟩
              go_wp2_with fail
              refine (HPSC.out _).mono ?_
              rintro e w6 ⟨rfl, rfl⟩
              go_wp2_with fail
              refine (HISC.out _).mono ?_
              rintro e w7 ⟨rfl, rfl⟩
              go_wp2_with fail
              go_ret3
              exact ⟨EscOut.no _ _ HF.out rfl, hb2⟩
        · have HF := Lib.hid (esc_bad h1 hc' hl0 h117)
          have hQ : unitQ s i = -1 := by
            unfold unitQ
            rw [if_neg]
            rintro ⟨_, _, h⟩
            exact h117 (by rw [← hc']; exact h)
          have HU := Lib.hid (fun W hT hC => implUnit s i W hs (by omega) hT hC)
          rw [hQ, unitQ_no hQ] at HU
          have HW := Lib.hid (fun W => implWithin (-1) 55296 56319 W)
          rw [decide_eq_false (by decide)] at HW
          have HPSC := Lib.hid (fun W => implPutSign (-1) W ⟨by decide, by decide⟩)
          have HISC := Lib.hid (fun W => implIsSign (-1) W)
          rw [show isSg (-1) = false from rfl] at HISC
          clear hQ hc' hl hl0 hk hq92
          go_enter Tryz.func57, Tryz.ntmps57
          go_wp2_with fail
          refine (HLK.out _).mono ?_
          rintro e w1 ⟨rfl, rfl⟩
          go_wp2_with fail
          refine (HU.out _ HT.out HCT.out).mono ?_
          rintro e w2 ⟨rfl, hb2⟩
          go_wp2_with fail
          refine (HW.out _).mono ?_
          rintro e w3 ⟨rfl, rfl⟩
          go_wp2_with fail
          refine (HPSC.out _).mono ?_
          rintro e w6 ⟨rfl, rfl⟩
          go_wp2_with fail
          refine (HISC.out _).mono ?_
          rintro e w7 ⟨rfl, rfl⟩
          go_wp2_with fail
          go_ret3
          exact ⟨EscOut.no _ _ HF.out rfl, hb2⟩
    · rw [hk] at HLK
      have HF := Lib.hid (esc_long h1 hc' hlo)
      have HX := Lib.hid hex
      have hkz : ¬ ((k : Int) < 0) := by omega
      have hk1 : ((k : Int) + 1).toNat = k + 1 := by omega
      have hk2 : (k : Int) + 1 ≤ 7 := by omega
      clear hc' hlo hex hk
      go_enter Tryz.func57, Tryz.ntmps57
      go_wp2_with fail
      refine (HLK.out _).mono ?_
      rintro e w1 ⟨rfl, rfl⟩
      go_wp2_with fail
      go_ret3
      exact ⟨EscOut.yes HF.out (by rw [← HX.out]; rfl), Below.refl _ _⟩
  · have HE := Lib.hid (esc_end (s := s) (i := i) (by omega))
    go_enter Tryz.func57, Tryz.ntmps57
    go_wp2_with fail
    go_ret3
    exact ⟨EscOut.no _ _ HE.out rfl, Below.refl _ _⟩
end Go.Proofs.YtbfddabljkoapaaGreatDoor

/-
  Unquote of the program: the text behind a quote.
-/
namespace Go.Proofs.YtbfddabljkoapaaGreatDoor
open Go.RowKit
set_option linter.unusedVariables false
set_option linter.unusedSimpArgs false
set_option maxRecDepth 100000

theorem own_strU {w : World} {base n : Nat} {v : Value} {l : List UInt8} {t : ByteArray} (h : w.ownsRow base 5 1 v (n + t.size) (l.map bv ++ Lib.strCells t)) (hn : n = l.length) : w.ownsRow base 5 1 v (l ++ t.data.toList).length ((l ++ t.data.toList).map bv) := by
  subst hn
  rw [List.map_append, List.length_append]
  have e : Lib.strCells t = t.data.toList.map bv := by simp [Lib.strCells, bv]
  rw [e] at h
  exact h

set_option maxHeartbeats 4000000 in
theorem implUnquote (s : ByteArray) (i : Int) (w : World) (hs : s.size ≤ 1048576) (hi : -9223372036854775808 ≤ i ∧ i ≤ 9223372036854775807) (hT : Tabs w) (hC : CaseTab w) :
    Calls Tryz.prog 10 #[.string s, .int .i64 i] w fun e w' => e = .returned (.tuple #[.string (unqB s i), .int .i64 (unqE s i)]) ∧ Below w.heap.size w w' := by
  obtain ⟨i0, hii, hz0, hz1, hz2⟩ := info_parts infoU8
  have HT := Lib.hid hT
  have HCT := Lib.hid hC
  have HW := Lib.hid (fun W => implWithin i 0 ((s.size : Int) - 1) W)
  clear hT hC
  by_cases hin : 0 ≤ i ∧ i < s.size
  · obtain ⟨h0, h1⟩ := hin
    obtain ⟨i, rfl⟩ := Int.eq_ofNat_of_zero_le h0
    rw [decide_eq_true ⟨by omega, by omega⟩] at HW
    have hlt0 : i < s.size := by omega
    have hg0 := get_get! s i hlt0
    by_cases h34 : s[i].toNat = 34
    · have HST := Lib.hid (unqTo_start (s := s) (a := (i : Int)) ⟨h0, h1, by rw [Int.toNat_natCast, ← hg0]; exact h34⟩)
      rw [Int.toNat_natCast] at HST
      clear hg0
      go_enter Tryz.func10, Tryz.ntmps10
      go_wp2_with fail
      refine (HW.out _).mono ?_
      rintro e w0 ⟨rfl, hw0⟩
      subst hw0
      go_wp2_with fail
      go_loopw [1, 6] (fun k o wr => ∃ (j : Nat) (out : List UInt8), Hid (UnqTo s (i : Int) j out) ∧ k = .int .i64 j ∧ wr.ownsRow w0.heap.size 5 1 o out.length (out.map bv) ∧ Below w0.heap.size w0 wr) (fun k _ _ => s.size - (intOf k).toNat)
      case atStart => exact ⟨i + 1, [], HST, by go_num, own_empty w0 _ _, (Below.refl _ _).alloc (Nat.le_refl _) _⟩
      case round =>
        obtain ⟨j, out, HU, rfl, hown, hb⟩ := hrel
        have hle := HU.out.1
        have hol : out.length ≤ 1048576 := by have := HU.out.2.1; omega
        by_cases hlt : j < s.size
        · have hg := get_get! s j hlt
          have hu : s[j].toNat < 256 := UInt8.toNat_lt _
          by_cases hq : s[j].toNat = 34
          · have HF := Lib.hid (unqTo_shut HU.out hlt (by rw [← hg]; exact hq))
            have hcv := run_string_own (P := Tryz.prog) (l := out) 22 9 5 Tryz.underlying22 Tryz.underlying5 Tryz.underlying9 hown
            clear hg
            go_wp2_with fail
            go_ret2
            exact ⟨tupV (congrArg Value.string HF.out.1.symm) (congrArg (Value.int .i64) HF.out.2.symm), hb⟩
          · have hq1 : ((s[j].toNat : Int) == 34) = false := by simp; omega
            by_cases h92 : s[j].toNat = 92
            · have HE := Lib.hid (implEscape s j wr hs hlt h92 (HT.out.below hb) (HCT.out.below hb))
              have HX1 := Lib.hid (unqTo_escBad HU.out hlt (by rw [← hg]; exact h92))
              have HX2 := Lib.hid (fun t n (he : escAt s j = some (t, n)) => (⟨unqTo_esc HU.out hlt (by rw [← hg]; exact h92) he, escAt_place he, escAt_len he⟩ : _ ∧ _ ∧ _))
              have HO := Lib.hid hown
              clear hg hown
              go_wp2_with fail
              refine HE.out.mono ?_
              rintro e w1 ⟨⟨t, n, b, rfl, hcase⟩, hb1⟩
              have b1 := hb.trans (hb1.mono hb.size)
              have hown1 := own_below HO.out hb1
              rcases hcase with ⟨rfl, hne⟩ | ⟨rfl, k, rfl, he⟩
              · have HF := Lib.hid (HX1.out hne)
                clear hne hown1
                go_wp2_with fail
                go_ret2
                exact ⟨tupV (congrArg Value.string HF.out.1.symm) (congrArg (Value.int .i64) HF.out.2.symm), b1⟩
              · have HX := Lib.hid (HX2.out t k he).1
                have hpl := (HX2.out t k he).2.1
                have hts := (HX2.out t k he).2.2
                clear he
                go_wp2_with (at_builtin; go_loud (refine Lib.wpList_append_own_string _ rfl (.tmp 69) (.tmp 70) 22 9 rfl w0.heap.size 5 i0 Tryz.underlying22 Tryz.underlying9 hii hz0 hz1 hz2 _ _ _ rfl hown1 t rfl (by unfold maxLen; omega) (by omega) b1.size ?_); intro v'' w4 hown4 hg4 _)
                have hb4 := b1.grown hg4 b1.size (fun k hk => (hown1.lt k hk).1)
                go_roundw
                case rel => exact ⟨k, out ++ t.data.toList, HX, rfl, own_strU hown4 rfl, hb4⟩
                case measure => simp [intOf]; omega
            · have hq2 : ((s[j].toNat : Int) == 92) = false := by simp; omega
              have HGS := Lib.hid (implGetSign s j wr hs ⟨by omega, by omega⟩ (HT.out.below hb))
              have HO := Lib.hid hown
              by_cases hok : gsOk s (j : Int)
              · have HY := Lib.hid (gs_yes' hok)
                have HLW := Lib.hid (sign_low hlt hok)
                have hd := dec_w s j
                have hdl := dec_le s j hlt
                by_cases h32 : 32 ≤ s[j].toNat
                · have HX := Lib.hid (unqTo_sign HU.out hlt (by rw [← hg]; exact hq) (by rw [← hg]; exact h92) hok (by rw [← hg]; exact h32))
                  have hn32 : ¬ (Utf8.decode s j).1 < 32 := fun h => by have := HLW.out.1 h; rw [← hg] at this; omega
                  have HEX := Lib.hid (extract_piece s j (Utf8.decode s j).2)
                  clear hg hown
                  go_wp2_with fail
                  refine HGS.out.mono ?_
                  rintro e w1 ⟨rfl, hb1⟩
                  have b1 := hb.trans (hb1.mono hb.size)
                  have hown1 := own_below HO.out hb1
                  rw [HY.out.1, HY.out.2]
                  obtain ⟨d, hdd⟩ : ∃ d, (Utf8.decode s j).2 = d := ⟨_, rfl⟩
                  obtain ⟨n, hnn⟩ : ∃ n, (Utf8.decode s j).1 = n := ⟨_, rfl⟩
                  rw [hdd] at hd hdl HX HEX ⊢
                  rw [hnn] at hd hn32 ⊢
                  clear hdd hnn HY
                  obtain ⟨k, hk⟩ : ∃ k, j + d = k := ⟨_, rfl⟩
                  rw [show (j : Int) + (d : Int) = (k : Int) by omega]
                  have hjk : j < k := by omega
                  rw [hk] at HX hdl HEX
                  have hexs : (s.extract j k).size ≤ 4 := by rw [ByteArray.size_extract]; omega
                  obtain ⟨t, ht⟩ : ∃ t, s.extract j k = t := ⟨_, rfl⟩
                  rw [ht] at hexs HEX
                  have hn32i : ¬ (n : Int) < 32 := by omega
                  clear hk hd h32
                  go_wp2_with (at_builtin; go_loud (refine Lib.wpList_append_own_string _ rfl (.tmp 39) (.tmp 43) 22 9 rfl w0.heap.size 5 i0 Tryz.underlying22 Tryz.underlying9 hii hz0 hz1 hz2 _ _ _ rfl hown1 t rfl (by unfold maxLen; omega) (by omega) b1.size ?_); intro v'' w4 hown4 hg4 _)
                  have hb4 := b1.grown hg4 b1.size (fun k hk => (hown1.lt k hk).1)
                  go_roundw
                  case rel => exact ⟨k, out ++ piece s j d, HX, rfl, by rw [← HEX.out]; exact own_strU hown4 rfl, hb4⟩
                  case measure => simp [intOf]; omega
                · have HF := Lib.hid (unqTo_bad HU.out hlt (by rw [← hg]; exact hq) (by rw [← hg]; exact h92) (by rw [← hg]; exact fun h => h32 h.2))
                  have hn32 : (Utf8.decode s j).1 < 32 := HLW.out.2 (by rw [← hg]; omega)
                  clear hg hown
                  go_wp2_with fail
                  refine HGS.out.mono ?_
                  rintro e w1 ⟨rfl, hb1⟩
                  have b1 := hb.trans (hb1.mono hb.size)
                  rw [HY.out.1]
                  obtain ⟨n, hnn⟩ : ∃ n, (Utf8.decode s j).1 = n := ⟨_, rfl⟩
                  rw [hnn] at hn32 ⊢
                  have hn32i : (n : Int) < 32 := by omega
                  generalize gsE s (j : Int) = ne
                  clear hnn HY hd hdl
                  go_wp2_with fail
                  go_ret2
                  exact ⟨tupV (congrArg Value.string HF.out.1.symm) (congrArg (Value.int .i64) HF.out.2.symm), b1⟩
              · have HF := Lib.hid (unqTo_bad HU.out hlt (by rw [← hg]; exact hq) (by rw [← hg]; exact h92) (fun h => hok h.1))
                have HY := Lib.hid (gs_no hok)
                clear hg hown
                go_wp2_with fail
                refine HGS.out.mono ?_
                rintro e w1 ⟨rfl, hb1⟩
                have b1 := hb.trans (hb1.mono hb.size)
                rw [HY.out.1]
                generalize gsE s (j : Int) = ne
                go_wp2_with fail
                go_ret2
                exact ⟨tupV (congrArg Value.string HF.out.1.symm) (congrArg (Value.int .i64) HF.out.2.symm), b1⟩
        · obtain rfl : j = s.size := by omega
          have HF := Lib.hid (unqTo_end HU.out (Nat.le_refl _))
          clear hown
          go_wp2_with fail
          go_ret2
          exact ⟨tupV (congrArg Value.string HF.out.1.symm) (congrArg (Value.int .i64) HF.out.2.symm), hb⟩
    · have HF := Lib.hid (unq_no (s := s) (a := (i : Int)) (by
        unfold unqP
        rw [if_neg]
        rintro ⟨_, _, h⟩
        rw [Int.toNat_natCast, ← hg0] at h
        exact h34 h))
      have hq1 : ((s[i].toNat : Int) != 34) = true := by simp; omega
      clear hg0
      go_enter Tryz.func10, Tryz.ntmps10
      go_wp2_with fail
      refine (HW.out _).mono ?_
      rintro e w0 ⟨rfl, hw0⟩
      subst hw0
      go_wp2_with fail
      go_ret2
      exact ⟨tupV (congrArg Value.string HF.out.1.symm) (congrArg (Value.int .i64) HF.out.2.symm), Below.refl _ _⟩
  · have HF := Lib.hid (unq_no (s := s) (a := i) (by unfold unqP; rw [if_neg]; rintro ⟨h1, h2, _⟩; exact hin ⟨h1, h2⟩))
    rw [decide_eq_false (fun h => hin ⟨h.1, by have := h.2; omega⟩)] at HW
    clear hin
    go_enter Tryz.func10, Tryz.ntmps10
    go_wp2_with fail
    refine (HW.out _).mono ?_
    rintro e w0 ⟨rfl, hw0⟩
    subst hw0
    go_wp2_with fail
    go_ret2
    exact ⟨tupV (congrArg Value.string HF.out.1.symm) (congrArg (Value.int .i64) HF.out.2.symm), Below.refl _ _⟩
end Go.Proofs.YtbfddabljkoapaaGreatDoor

/-
  A text in its quotes, plainly.
-/
namespace Go.Proofs.YtbfddabljkoapaaGreatDoor
open Go.RowKit
set_option linter.unusedVariables false

/-- What stands for a byte. -/
def escL (b : UInt8) : List UInt8 := if shortOf b.toNat ≠ 0 then [92, UInt8.ofNat (shortOf b.toNat)] else if b.toNat < 32 then [92, 117, 48, 48] ++ hexOf [b] else [b]
/-- What has been written behind j bytes. -/
def qTo (s : ByteArray) (j : Nat) : List UInt8 := 34 :: (s.data.toList.take j).flatMap escL
def quoteB (s : ByteArray) : ByteArray := if textOk s then str (qTo s s.size ++ [34]) else ⟨#[]⟩
theorem escL_len (b : UInt8) : (escL b).length ≤ 6 := by unfold escL; repeat' split
                                                         all_goals simp [hexOf]
theorem qTo_len (s : ByteArray) (j : Nat) : (qTo s j).length ≤ 6 * j + 1 := by
  have : ∀ l : List UInt8, (l.flatMap escL).length ≤ 6 * l.length := by
    intro l
    induction l with
    | nil => simp
    | cons b l ih => simp only [List.flatMap_cons, List.length_append, List.length_cons]; have := escL_len b; omega
  have h1 := this (s.data.toList.take j)
  have h2 := List.length_take_le j s.data.toList
  unfold qTo
  simp only [List.length_cons]
  omega
theorem qTo_step (s : ByteArray) (j : Nat) (h : j < s.size) : qTo s (j + 1) = qTo s j ++ escL s[j] := by
  unfold qTo
  rw [take_snoc s j h]
  simp
theorem shortOf_lt (b : Nat) : shortOf b < 256 := by unfold shortOf; repeat' split
                                                     all_goals omega
theorem escL_short {b : UInt8} (h : shortOf b.toNat ≠ 0) : (escL b).map bv = [.int .u8 92, .int .u8 (shortOf b.toNat : Int)] := by
  have := shortOf_lt b.toNat
  unfold escL
  rw [if_pos h]
  simp only [List.map_cons, List.map_nil, bv, UInt8.toNat_ofNat']
  rw [Nat.mod_eq_of_lt (by simpa using this)]
  rfl
theorem escL_low {b : UInt8} (h : shortOf b.toNat = 0) (h2 : b.toNat < 32) : escL b = [92, 117, 48, 48] ++ hexOf [b] := by
  unfold escL; rw [if_neg (by simpa using h), if_pos h2]
theorem escL_own {b : UInt8} (h : shortOf b.toNat = 0) (h2 : ¬ b.toNat < 32) : escL b = [b] := by
  unfold escL; rw [if_neg (by simpa using h), if_neg h2]

/-- What holds in both loops. -/
def QRel (s : ByteArray) (w : World) (o i : Value) (wr : World) : Prop :=
  ∃ j : Nat, j ≤ s.size ∧ i = .int .i64 j ∧ wr.ownsRow w.heap.size 5 1 o (qTo s j).length ((qTo s j).map bv) ∧ Below w.heap.size w wr
theorem q_next {s : ByteArray} {w w' : World} {j n : Nat} {v : Value} {xs : List Value} (hj : j < s.size) (hn : n = (qTo s j).length + (escL s[j]).length) (hx : xs = (qTo s j).map bv ++ (escL s[j]).map bv)
    (hown : w'.ownsRow w.heap.size 5 1 v n xs) (hb : Below w.heap.size w w') : QRel s w v (.int .i64 ((j : Int) + 1)) w' := by
  subst hn hx
  refine ⟨j + 1, by omega, by go_num, ?_, hb⟩
  rw [qTo_step s j hj, List.length_append, List.map_append]
  exact hown
end Go.Proofs.YtbfddabljkoapaaGreatDoor

/-
  PutHex of the reference returns the two digits of each byte, for a text of at most 1048576 bytes.
-/
namespace Go.Proofs.YtbfddabljkoapaaGreatDoor
open Go.ChangeShapes Go.WideShapes Go.ChangeAt Go.RowKit
set_option linter.unusedVariables false

set_option maxHeartbeats 1000000 in
theorem specPutHex (s : ByteArray) (w : World) (hs : s.size ≤ 1048576) :
    Calls Tryz.prog 23 #[.string s] w fun e w' => e = .returned (.string (str (hexOf s.data.toList))) ∧ Below w.heap.size w w' := by
  go_enter Tryz.func23, Tryz.ntmps23
  go_wp2
  go_loopw [3, 4] (fun v i wr => ∃ k : Nat, k ≤ s.size ∧ i = .int .i64 k ∧ wr.ownsRow w.heap.size 5 1 v (2 * k) ((hexOf (s.data.toList.take k)).map bv) ∧ Below w.heap.size w wr)
    (fun _ i _ => s.size - (intOf i).toNat)
  case atStart => exact ⟨0, Nat.zero_le _, rfl, own_empty w _ _, (Below.refl _ _).alloc (Nat.le_refl _) _⟩
  case round =>
    obtain ⟨k, hk, rfl, hown, hb⟩ := hrel
    by_cases hlt : k < s.size
    · have hu : s[k].toNat < 256 := UInt8.toNat_lt _
      have e1 := quo16 s[k].toNat hu
      have e2 := rem16 s[k].toNat
      go_wp2
      go_region_held3 (fun _ => True) (exact trivial) (first | (refine step_app rfl (.tmp 12) (.tmp 23) 22 rfl w.heap.size 5 Tryz.underlying22 infoU8 rfl (by decide) rfl (hown.alloc _) (hb.alloc hb.size _).drew (Nat.le_trans hb.size (by simp)) _ 2 2 _ rfl rfl (cells_newD _ _ _) (ones_u8 _ _) (by unfold maxLen; omega) (by omega) ?_; intro v' w' hown' hb' hB'))
      all_goals
        rw [hex_cells, ← List.map_append, ← hexOf_snoc, ← take_snoc s k hlt] at hown'
        go_wp2
        go_roundw
        case rel => exact ⟨k + 1, by omega, by go_num, hown', hb'⟩
        case measure => simp [intOf]; omega
    · obtain rfl : k = s.size := by omega
      have hcv := run_string_own (P := Tryz.prog) 22 9 5 Tryz.underlying22 Tryz.underlying5 Tryz.underlying9 hown
      clear hown
      go_wp2
      go_ret
      exact ⟨ret_eq (congrArg (fun l => Value.string (str (hexOf l))) (List.take_of_length_le (by simp))), hb⟩
end Go.Proofs.YtbfddabljkoapaaGreatDoor

/-
  TextOk of the program.
-/
namespace Go.Proofs.YtbfddabljkoapaaGreatDoor
open Go.RowKit
set_option linter.unusedVariables false

set_option maxHeartbeats 1000000 in
theorem implTextOk (s : ByteArray) (w : World) (hs : s.size ≤ 1048576) (hT : Tabs w) :
    Calls Tryz.prog 29 #[.string s] w fun e w' => e = .returned (.bool (textOk s)) ∧ Below w.heap.size w w' := by
  have HV := Lib.hid (valid_textOk s)
  go_enter Tryz.func29, Tryz.ntmps29
  go_wp2_with fail
  refine (Tryz.utf8_ValidString_v s w (by omega) hT).mono ?_
  rintro e w1 ⟨rfl, hb1⟩
  rw [HV.out]
  go_wp2_with fail
  go_ret
  exact ⟨rfl, hb1⟩
end Go.Proofs.YtbfddabljkoapaaGreatDoor

/-
  Quote of the reference: the text in its quotes.
-/
namespace Go.Proofs.YtbfddabljkoapaaGreatDoor
open Go.RowKit
set_option linter.unusedVariables false

theorem quote_no {s : ByteArray} (h : textOk s = false) : quoteB s = ⟨#[]⟩ := by unfold quoteB; rw [h]; rfl
theorem quote_yes {s : ByteArray} (h : textOk s = true) : quoteB s = str (qTo s s.size ++ [34]) := by unfold quoteB; rw [h]; rfl
theorem ones4 (a b c d : Int) : ∀ u ∈ #[Value.int .u8 a, Value.int .u8 b, Value.int .u8 c, Value.int .u8 d].toList, u.oneCell' = true := by
  intro u hu; simp at hu; rcases hu with rfl | rfl | rfl | rfl <;> rfl
theorem ones6 (a b c d e f : Int) : ∀ u ∈ #[Value.int .u8 a, Value.int .u8 b, Value.int .u8 c, Value.int .u8 d, Value.int .u8 e, Value.int .u8 f].toList, u.oneCell' = true := by
  intro u hu; simp at hu; rcases hu with rfl | rfl | rfl | rfl | rfl | rfl <;> rfl
theorem ext_one (s : ByteArray) (j : Nat) (h : j < s.size) : (s.extract j (j + 1)).data.toList = [s[j]] := by
  have h1 := piece_succ s j 0 (by omega)
  rw [ByteArray.data_extract]
  have : (s.data.extract j (j + 1)).toList = piece s j 1 := by unfold piece; simp
  rw [this]
  simpa [piece] using h1
theorem own_str {w : World} {base n : Nat} {v : Value} {l : List UInt8} {t : ByteArray} {l2 : List UInt8} (ht : t = str l2) (h : w.ownsRow base 5 1 v (n + t.size) (l.map bv ++ Lib.strCells t)) : w.ownsRow base 5 1 v (n + l2.length) ((l ++ l2).map bv) := by
  subst ht
  rw [str_len] at h
  rw [List.map_append]
  have e : Lib.strCells (str l2) = l2.map bv := by simp [Lib.strCells, str, bv]
  rwa [e] at h

set_option maxHeartbeats 2000000 in
set_option maxRecDepth 100000 in
theorem specQuote (s : ByteArray) (w : World) (hs : s.size ≤ 1048576) :
    Calls Tryz.prog 22 #[.string s] w fun e w' => e = .returned (.string (quoteB s)) ∧ Below w.heap.size w w' := by
  obtain ⟨i0, hi, hz0, hz1, hz2⟩ := info_parts infoU8
  cases hok0 : textOk s with
  | false =>
    have HQ := Lib.hid (quote_no hok0)
    have HO := Lib.hid hok0
    clear hok0
    go_enter Tryz.func22, Tryz.ntmps22
    go_wp2_with fail
    refine (specTextOk s w hs).mono ?_
    rintro e w1 ⟨rfl, hb1⟩
    rw [HO.out]
    go_wp2_with fail
    go_ret
    exact ⟨ret_eq (congrArg Value.string HQ.out.symm), hb1⟩
  | true =>
    have HQ := Lib.hid (quote_yes hok0)
    have HO := Lib.hid hok0
    clear hok0
    go_enter Tryz.func22, Tryz.ntmps22
    go_wp2_with fail
    refine (specTextOk s w hs).mono ?_
    rintro e w1 ⟨rfl, hb1⟩
    rw [HO.out]
    have hsz1 := hb1.size
    go_wp2_with fail
    go_loopw [3, 4] (fun o i wr => QRel s w o i wr) (fun _ i _ => s.size - (intOf i).toNat)
    case atStart => exact ⟨0, Nat.zero_le _, rfl, own_lit1 w1 5 (.int .u8 34) hsz1, hb1.alloc hsz1 _⟩
    case round =>
      obtain ⟨j, hj, rfl, hown, hb⟩ := hrel
      have hql := qTo_len s j
      by_cases hlt : j < s.size
      · have hu : s[j].toNat < 256 := UInt8.toNat_lt _
        have hel := escL_len s[j]
        by_cases hsh : shortOf s[j].toNat = 0
        · by_cases hlow : s[j].toNat < 32
          · have HE := Lib.hid (escL_low hsh hlow)
            have HX := Lib.hid (ext_one s j hlt)
            have HS := Lib.hid hsh
            obtain ⟨t, ht⟩ : ∃ t, str (hexOf [s[j]]) = t := ⟨_, rfl⟩
            have htz : t.size = 2 := by rw [← ht, str_len, hexOf_len]; rfl
            have cH : ∀ W, Calls Tryz.prog 23 #[.string (s.extract j (j + 1))] W fun e w' => e = .returned (.string t) ∧ Below W.heap.size W w' := fun W => by
              have h := specPutHex (s.extract j (j + 1)) W (by simp; omega)
              rw [HX.out, ht] at h
              exact h
            have HC := Lib.hid cH
            have HTZ := Lib.hid htz
            have HT := Lib.hid ht
            clear hsh cH ht htz
            go_wp2_with fail
            refine (specShort _ hu _).mono ?_
            rintro e w2 ⟨rfl, hb2⟩
            rw [HS.out]
            have hown2 := own_below hown hb2
            have hbw := hb.trans (hb2.mono hb.size)
            clear hown hb hb2
            go_wp2_with (at_builtin; refine wpList_app rfl (.tmp 39) (.tmp 40) 22 rfl w.heap.size 5 Tryz.underlying22 infoU8 rfl (by decide) (W := w) rfl (hown2.alloc _) (hbw.alloc hbw.size _) (Nat.le_trans hbw.size (by simp)) _ 4 4 _ rfl rfl (cells_new _ _ _) (ones4 _ _ _ _) (by unfold maxLen; omega) (by omega) ?_; intro v' w' hown' hb' hB')
            refine (HC.out _).mono ?_
            rintro e w3 ⟨rfl, hb3⟩
            have hown3 := own_below hown' hb3
            have hbw3 := hb'.trans (hb3.mono hB')
            clear hown' hb' hown2 hbw
            go_wp2_with (at_builtin; go_loud (refine Lib.wpList_append_own_string _ rfl (.tmp 42) (.tmp 48) 22 9 rfl w.heap.size 5 i0 Tryz.underlying22 Tryz.underlying9 hi hz0 hz1 hz2 _ _ _ rfl hown3 t rfl (by have := HTZ.out; unfold maxLen; omega) (by have := HTZ.out; omega) hbw3.size ?_); intro v'' w4 hown4 hg4 _)
            have hb4 := hbw3.grown hg4 hbw3.size (fun k hk => (hown3.lt k hk).1)
            go_roundw
            case rel => exact q_next hlt (by rw [HE.out, HTZ.out]; simp [hexOf_len]) (by rw [HE.out, ← HT.out]; simp [Lib.strCells, str, bv]) hown4 hb4
            case measure => simp [intOf]; omega
          · have HE := Lib.hid (escL_own hsh hlow)
            have HS := Lib.hid hsh
            clear hsh
            go_wp2_with fail
            refine (specShort _ hu _).mono ?_
            rintro e w2 ⟨rfl, hb2⟩
            rw [HS.out]
            have hown2 := own_below hown hb2
            have hbw := hb.trans (hb2.mono hb.size)
            clear hown hb hb2
            go_wp2_with (at_builtin; refine wpList_app rfl (.tmp 15) (.tmp 19) 22 rfl w.heap.size 5 Tryz.underlying22 infoU8 rfl (by decide) (W := w) rfl (hown2.alloc _) (hbw.alloc hbw.size _) (Nat.le_trans hbw.size (by simp)) _ 1 1 _ rfl rfl (cells_new _ _ _) (one_u8 _) (by unfold maxLen; omega) (by omega) ?_; intro v' w' hown' hb' hB')
            go_roundw
            case rel => exact q_next hlt (by rw [HE.out]; rfl) (by rw [HE.out]; rfl) hown' hb'
            case measure => simp [intOf]; omega
        · have HE := Lib.hid (escL_short hsh)
          have hsb := shortOf_lt s[j].toNat
          have hne : ((shortOf s[j].toNat : Int) == 0) = false := by simp; omega
          have HL := Lib.hid (show (escL s[j]).length = 2 by unfold escL; rw [if_pos hsh]; rfl)
          clear hsh
          go_wp2_with fail
          refine (specShort _ hu _).mono ?_
          rintro e w2 ⟨rfl, hb2⟩
          have hown2 := own_below hown hb2
          have hbw := hb.trans (hb2.mono hb.size)
          clear hown hb hb2
          go_wp2_with fail
          refine (specShort _ hu _).mono ?_
          rintro e w3 ⟨rfl, hb3⟩
          have hown3 := own_below hown2 hb3
          have hbw3 := hbw.trans (hb3.mono hbw.size)
          clear hown2 hbw hb3
          go_wp2_with (at_builtin; refine wpList_app rfl (.tmp 27) (.tmp 32) 22 rfl w.heap.size 5 Tryz.underlying22 infoU8 rfl (by decide) (W := w) rfl (hown3.alloc _) (hbw3.alloc hbw3.size _) (Nat.le_trans hbw3.size (by simp)) _ 2 2 _ rfl rfl (cells_new _ _ _) (ones_u8 _ _) (by unfold maxLen; omega) (by omega) ?_; intro v' w' hown' hb' hB')
          go_roundw
          case rel => exact q_next hlt (by rw [HL.out]) (by rw [HE.out]) hown' hb'
          case measure => simp [intOf]; omega
      · obtain rfl : j = s.size := by omega
        go_wp2_with (at_builtin; refine wpList_app rfl (.tmp 50) (.tmp 51) 22 rfl w.heap.size 5 Tryz.underlying22 infoU8 rfl (by decide) (W := w) rfl (hown.alloc _) (hb.alloc hb.size _) (Nat.le_trans hb.size (by simp)) _ 1 1 _ rfl rfl (cells_new _ _ _) (one_u8 _) (by unfold maxLen; omega) (by omega) ?_; intro v' w' hown' hb' hB'; have hcv := run_string_own (P := Tryz.prog) (l := qTo s s.size ++ [34]) 22 9 5 Tryz.underlying22 Tryz.underlying5 Tryz.underlying9 (by simpa [bv] using hown'))
        go_ret
        exact ⟨ret_eq (congrArg Value.string HQ.out.symm), hb'⟩
end Go.Proofs.YtbfddabljkoapaaGreatDoor

/-
  Quote of the program: the text in its quotes.
-/
namespace Go.Proofs.YtbfddabljkoapaaGreatDoor
open Go.RowKit
set_option linter.unusedVariables false

theorem letter_at (j : Nat) (h : j < 7) : (ByteArray.mk #[34, 92, 98, 102, 110, 114, 116])[j]'h = ([34, 92, 98, 102, 110, 114, 116] : List UInt8)[j]'h := by
  have : ∀ m : Fin 7, (ByteArray.mk #[34, 92, 98, 102, 110, 114, 116])[m.val]'m.isLt = ([34, 92, 98, 102, 110, 114, 116] : List UInt8)[m.val]'m.isLt := by decide
  exact this ⟨j, h⟩
theorem hex_cells6 (n : Nat) (p q) : #[Value.int .u8 92, Value.int .u8 117, Value.int .u8 48, Value.int .u8 48, Value.int .u8 (((ByteArray.mk #[48, 49, 50, 51, 52, 53, 54, 55, 56, 57, 97, 98, 99, 100, 101, 102])[((n : Int) / 16).toNat]'p).toNat : Int), Value.int .u8 (((ByteArray.mk #[48, 49, 50, 51, 52, 53, 54, 55, 56, 57, 97, 98, 99, 100, 101, 102])[((n : Int) % 16).toNat]'q).toNat : Int)].toList = ([92, 117, 48, 48] ++ [hexD (n / 16), hexD (n % 16)]).map bv := by
  have h := hex_cells n p q
  simp only [List.map_append, ← h]
  rfl

set_option maxRecDepth 100000 in
set_option maxHeartbeats 2000000 in
theorem implQuote (s : ByteArray) (w : World) (hs : s.size ≤ 1048576) (hT : Tabs w) :
    Calls Tryz.prog 8 #[.string s] w fun e w' => e = .returned (.string (quoteB s)) ∧ Below w.heap.size w w' := by
  cases hok0 : textOk s with
  | false =>
    have HQ := Lib.hid (quote_no hok0)
    have HO := Lib.hid hok0
    clear hok0
    go_enter Tryz.func8, Tryz.ntmps8
    go_wp2_with fail
    refine (implTextOk s w hs hT).mono ?_
    rintro e w1 ⟨rfl, hb1⟩
    rw [HO.out]
    go_wp2_with fail
    go_ret
    exact ⟨ret_eq (congrArg Value.string HQ.out.symm), hb1⟩
  | true =>
    have HQ := Lib.hid (quote_yes hok0)
    have HO := Lib.hid hok0
    clear hok0
    go_enter Tryz.func8, Tryz.ntmps8
    go_wp2_with fail
    refine (implTextOk s w hs hT).mono ?_
    rintro e w1 ⟨rfl, hb1⟩
    rw [HO.out]
    have hsz1 := hb1.size
    go_wp2_with fail
    go_loopw [3, 13] (fun o i wr => QRel s w o i wr) (fun _ i _ => s.size - (intOf i).toNat)
    case atStart => exact ⟨0, Nat.zero_le _, rfl, own_lit1 w1 5 (.int .u8 34) hsz1, hb1.alloc hsz1 _⟩
    case round =>
      obtain ⟨j, hj, rfl, hown, hb⟩ := hrel
      have hql := qTo_len s j
      by_cases hlt : j < s.size
      · have hu : s[j].toNat < 256 := UInt8.toNat_lt _
        have hel := escL_len s[j]
        rcases short_cases s[j].toNat with ⟨hsh, hk⟩ | ⟨k, hk, hk7, hsh, hlet⟩
        · have HK := Lib.hid hk
          by_cases hlow : s[j].toNat < 32
          · have HE := Lib.hid (escL_low hsh hlow)
            have e15 := and15 s[j].toNat hu
            clear hsh hk
            go_wp2_with fail
            refine (implShort _ hu _).mono ?_
            rintro e w2 ⟨rfl, rfl⟩
            rw [HK.out]
            go_wp2_with fail
            go_region_held3 (fun _ => True) (exact trivial) (first | (refine step_app rfl (.tmp 36) (.tmp 43) 22 rfl w.heap.size 5 Tryz.underlying22 infoU8 rfl (by decide) rfl (hown.alloc _) (hb.alloc hb.size _).drew (Nat.le_trans hb.size (by simp)) _ 6 6 _ rfl rfl (cells_newD _ _ _) (ones6 _ _ _ _ _ _) (by unfold maxLen; omega) (by omega) ?_; intro v' w' hown' hb' hB'))
            all_goals
              rw [hex_cells6] at hown'
              go_wp2_with fail
              go_roundw
              case rel => exact q_next hlt (by rw [HE.out]; rfl) (by rw [HE.out]; simp [hexOf]) hown' hb'
              case measure => simp [intOf]; omega
          · have HE := Lib.hid (escL_own hsh hlow)
            clear hsh hk
            go_wp2_with fail
            refine (implShort _ hu _).mono ?_
            rintro e w2 ⟨rfl, rfl⟩
            rw [HK.out]
            go_wp2_with (at_builtin; refine wpList_app rfl (.tmp 21) (.tmp 23) 22 rfl w.heap.size 5 Tryz.underlying22 infoU8 rfl (by decide) (W := w) rfl (hown.alloc _) (hb.alloc hb.size _) (Nat.le_trans hb.size (by simp)) _ 1 1 _ rfl rfl (cells_new _ _ _) (one_u8 _) (by unfold maxLen; omega) (by omega) ?_; intro v' w' hown' hb' hB')
            go_roundw
            case rel => exact q_next hlt (by rw [HE.out]; rfl) (by rw [HE.out]; rfl) hown' hb'
            case measure => simp [intOf]; omega
        · have HE := Lib.hid (escL_short hsh)
          have HK := Lib.hid hk
          have HL := Lib.hid (show (escL s[j]).length = 2 by unfold escL; rw [if_pos hsh]; rfl)
          have HLT := Lib.hid hlet
          clear hsh hk hlet
          go_wp2_with fail
          refine (implShort _ hu _).mono ?_
          rintro e w2 ⟨rfl, rfl⟩
          rw [HK.out]
          go_wp2_with (at_builtin; refine wpList_app rfl (.tmp 28) (.tmp 31) 22 rfl w.heap.size 5 Tryz.underlying22 infoU8 rfl (by decide) (W := w) rfl (hown.alloc _) (hb.alloc hb.size _) (Nat.le_trans hb.size (by simp)) _ 2 2 _ rfl rfl (cells_new _ _ _) (ones_u8 _ _) (by unfold maxLen; omega) (by omega) ?_; intro v' w' hown' hb' hB')
          go_roundw
          case rel => exact q_next hlt (by rw [HL.out]) (by rw [HE.out, ← HLT.out, ← letter_at k hk7]) hown' hb'
          case measure => simp [intOf]; omega
      · obtain rfl : j = s.size := by omega
        go_wp2_with (at_builtin; refine wpList_app rfl (.tmp 46) (.tmp 47) 22 rfl w.heap.size 5 Tryz.underlying22 infoU8 rfl (by decide) (W := w) rfl (hown.alloc _) (hb.alloc hb.size _) (Nat.le_trans hb.size (by simp)) _ 1 1 _ rfl rfl (cells_new _ _ _) (one_u8 _) (by unfold maxLen; omega) (by omega) ?_; intro v' w' hown' hb' hB'; have hcv := run_string_own (P := Tryz.prog) (l := qTo s s.size ++ [34]) 22 9 5 Tryz.underlying22 Tryz.underlying5 Tryz.underlying9 (by simpa [bv] using hown'))
        go_ret
        exact ⟨ret_eq (congrArg Value.string HQ.out.symm), hb'⟩
end Go.Proofs.YtbfddabljkoapaaGreatDoor
