/-
  The program's walk over a value, node by node, with whatever function is handed to it.
-/
import Derived.Test.YtlfiaccpihjldaaDoorTree
namespace Go.Proofs.YtlfiaccpihjldaaDoor
open Go.RowKit
set_option linter.unusedVariables false
set_option linter.unusedSimpArgs false

mutual
/-- The values in a value, itself first. -/
def V.pre : V → List V
  | .mk k n e s ks => .mk k n e s ks :: Vs.pre ks
def Vs.pre : List V → List V
  | [] => []
  | v :: r => v.pre ++ Vs.pre r
end
theorem V.pre_eq (v : V) : v.pre = v :: Vs.pre v.kids := by cases v; simp [V.pre, V.kids]
theorem Vs.pre_snoc (l : List V) (v : V) : Vs.pre (l ++ [v]) = Vs.pre l ++ v.pre := by
  induction l with
  | nil => simp [Vs.pre]
  | cons a l ih => simp only [List.cons_append, Vs.pre, ih, List.append_assoc]
theorem Vs.pre_step (l : List V) (i : Nat) (h : i < l.length) : Vs.pre (l.take (i + 1)) = Vs.pre (l.take i) ++ (l[i]).pre := by
  rw [List.take_succ_eq_append_getElem h, Vs.pre_snoc]

mutual
theorem V.pre_len : ∀ v : V, v.pre.length = v.nodes
  | .mk _ _ _ _ ks => by simp only [V.pre, V.nodes, List.length_cons]; rw [Vs.pre_len ks]
theorem Vs.pre_len : ∀ l : List V, (Vs.pre l).length = Vs.nodes l
  | [] => by simp [Vs.pre, Vs.nodes]
  | v :: r => by simp only [Vs.pre, Vs.nodes, List.length_append]; rw [V.pre_len v, Vs.pre_len r]
end
theorem take_pre_len (l : List V) (j : Nat) (h : j < l.length) : (Vs.pre (l.take j)).length + (l[j]).nodes ≤ Vs.nodes l := by
  rw [Vs.pre_len]
  have h1 : ∀ (a : List V) (i : Nat), Vs.nodes (a.take i) + Vs.nodes (a.drop i) = Vs.nodes a := by
    intro a
    induction a with
    | nil => intro i; simp [Vs.nodes]
    | cons x a ih =>
      intro i
      cases i with
      | zero => simp [Vs.nodes]
      | succ i => simp only [List.take_succ_cons, List.drop_succ_cons, Vs.nodes]; have := ih i; omega
  have h2 := h1 l j
  rw [List.drop_eq_getElem_cons h] at h2
  simp only [Vs.nodes] at h2
  omega
/-- Only blocks of D may have changed, and what is D's behind it was D's or is new. -/
structure Keep (D : World → Nat → Prop) (w w' : World) : Prop where
  os : w'.os = w.os
  tape : w'.tape = w.tape
  output : w'.output = w.output
  size : w.heap.size ≤ w'.heap.size
  block : ∀ k, k < w.heap.size → ¬ D w k → w'.heap[k]? = w.heap[k]? ∧ ¬ D w' k
theorem Keep.trans {D : World → Nat → Prop} {a b c : World} (h : Keep D a b) (k : Keep D b c) : Keep D a c :=
  ⟨k.os.trans h.os, k.tape.trans h.tape, k.output.trans h.output, Nat.le_trans h.size k.size, fun i hi hd => by
    obtain ⟨h1, h2⟩ := h.block i hi hd
    obtain ⟨k1, k2⟩ := k.block i (Nat.lt_of_lt_of_le hi h.size) h2
    exact ⟨k1.trans h1, k2⟩⟩
theorem Keep.refl {D : World → Nat → Prop} (w : World) : Keep D w w := ⟨rfl, rfl, rfl, Nat.le_refl _, fun _ _ h => ⟨rfl, h⟩⟩

theorem Keep.below {D : World → Nat → Prop} {w w0 w1 : World} {B : Nat} (h : Keep D w0 w1) (hb : Below B w w0) (hB : B ≤ w0.heap.size) (hd : ∀ k, k < B → ¬ D w0 k) : Below B w w1 :=
  ⟨h.os.trans hb.os, h.tape.trans hb.tape, h.output.trans hb.output, Nat.le_trans hb.size h.size, fun k hk => (h.block k (Nat.lt_of_lt_of_le hk hB) (hd k hk)).1.trans (hb.block k hk)⟩
/-- What is asked of the function that is called for each node. -/
structure Yields (F : FuncId) (caps : Array Value) (Inv : List V → World → Prop) (D : World → Nat → Prop) (N : Nat) : Prop where
  step : ∀ xs x A c w hi, Inv xs w → Vs.at_ w 0 hi x.kids A → hi ≤ w.heap.size → (∀ k, k < hi → ¬ D w k) → x.nodes ≤ 1048577 → xs.length + 1 ≤ N →
    Calls Tryd.prog F (#[x.agg A c] ++ caps) w fun e w' => e = .returned (.tuple #[]) ∧ Inv (xs ++ [x]) w' ∧ Keep D w w'
  enters : ∀ (args : Array Value) (w : World), (callFunc F args).run Tryd.prog w = .ok (.enter F args) w
  alloc : ∀ xs w o, Inv xs w → Inv xs (w.alloc o) ∧ ∀ k, D (w.alloc o) k → D w k ∧ k < w.heap.size

def WalkSaid (F : FuncId) (caps : Array Value) (Inv : List V → World → Prop) (D : World → Nat → Prop) (N : Nat) (v : V) : Prop :=
  ∀ (A : Option Addr) (c : Nat) (xs : List V) (w : World) (hi : Nat), Inv xs w → Vs.at_ w 0 hi v.kids A → hi ≤ w.heap.size → (∀ k, k < hi → ¬ D w k) → v.nodes ≤ 1048577 → xs.length + v.nodes ≤ N →
    Calls Tryd.prog 80 #[v.agg A c, .func (Fn.func F) #[] caps] w fun e w' => e = .returned (.tuple #[]) ∧ Inv (xs ++ v.pre) w' ∧ Keep D w w'

theorem Yields.kept {F : FuncId} {caps : Array Value} {Inv : List V → World → Prop} {D : World → Nat → Prop} {N : Nat} (Y : Yields F caps Inv D N) {xs : List V} {w : World} (h : Inv xs w) (o : Obj) : Keep D w (w.alloc o) :=
  ⟨rfl, rfl, rfl, by simp, fun k hk hd => ⟨Below.heap_alloc w o k hk, fun h' => hd ((Y.alloc xs w o h).2 k h').1⟩⟩
theorem Keep.at_ {D : World → Nat → Prop} {w w' : World} (h : Keep D w w') {lo hi : Nat} {l : List V} {A : Option Addr} (ha : Vs.at_ w lo hi l A) (hh : hi ≤ w.heap.size) (hd : ∀ k, k < hi → ¬ D w k) : Vs.at_ w' lo hi l A :=
  Vs.at_keep (fun p _ hp => World.cell?_of_block (h.block p.block (by omega) (hd _ hp)).1) _ _ ha
theorem Keep.blk {D : World → Nat → Prop} {w w' : World} (h : Keep D w w') {g : Nat} {t : TypeId} {cs : Array Value} (hb : Blk w g t cs) (hd : ¬ D w g) : Blk w' g t cs ∧ ¬ D w' g :=
  ⟨(h.block g hb.lt hd).1.trans hb, (h.block g hb.lt hd).2⟩

/-- What holds behind j kids. -/
def WRel (Inv : List V → World → Prop) (D : World → Nat → Prop) (xs : List V) (v : V) (w : World) (hi j : Nat) (wr : World) : Prop :=
  Inv (xs ++ v :: Vs.pre (v.kids.take j)) wr ∧ Keep D w wr ∧ ∀ k, k < hi → ¬ D wr k
theorem wrel_next {Inv : List V → World → Prop} {xs : List V} {v : V} {w : World} {j : Nat} (hlt : j < v.kids.length) (h : Inv (xs ++ v :: Vs.pre (v.kids.take j) ++ (v.kids[j]).pre) w) : Inv (xs ++ v :: Vs.pre (v.kids.take (j + 1))) w := by
  rw [Vs.pre_step _ j hlt]
  simpa using h

set_option maxHeartbeats 2000000 in
theorem walk_step {F : FuncId} {caps : Array Value} {Inv : List V → World → Prop} {D : World → Nat → Prop} {N : Nat} (Y : Yields F caps Inv D N) (v : V) (hk : ∀ i (h : i < v.kids.length), WalkSaid F caps Inv D N v.kids[i]) : WalkSaid F caps Inv D N v := by
  intro A c xs w hi hinv hat hhi hD hn hN
  have HP := Lib.hid (V.pre_eq v)
  have HN := Lib.hid (V.nodes_eq v)
  have hl : v.kids.length ≤ 1048576 := by have := Vs.len_nodes v.kids; have := HN.out; omega
  have hN1 : xs.length + 1 ≤ N := by have := HN.out; omega
  have HC := Lib.hid hk
  have HY := Lib.hid Y
  have HI := Lib.hid hinv
  have HA := Lib.hid hat
  have HD := Lib.hid hD
  have hE := Y.enters
  clear hk Y hinv hat hD
  unfold V.agg
  go_enter Tryd.func80, Tryd.ntmps80
  go_wp2_with fail
  have BX := Blk.new w 29 #[.int .i64 v.k, .int .i64 v.n, .int .i64 v.e, .string v.s, .slice A v.kids.length c]
  obtain ⟨HI1, HD1⟩ := HY.out.alloc xs w (.cells #[.int .i64 v.k, .int .i64 v.n, .int .i64 v.e, .string v.s, .slice A v.kids.length c] 29) HI.out
  have K1 := HY.out.kept HI.out (.cells #[.int .i64 v.k, .int .i64 v.n, .int .i64 v.e, .string v.s, .slice A v.kids.length c] 29)
  have hd1 : ∀ k, k < hi → ¬ D (w.alloc (.cells #[.int .i64 v.k, .int .i64 v.n, .int .i64 v.e, .string v.s, .slice A v.kids.length c] 29)) k := fun k hk h => HD.out k hk (HD1 k h).1
  have hdx : ¬ D (w.alloc (.cells #[.int .i64 v.k, .int .i64 v.n, .int .i64 v.e, .string v.s, .slice A v.kids.length c] 29)) w.heap.size := fun h => absurd (HD1 _ h).2 (Nat.lt_irrefl _)
  have HD2 := Lib.hid hd1
  have HDX := Lib.hid hdx
  clear hd1 hdx HD1
  refine (HY.out.step xs v A c _ hi HI1 (Vs.at_alloc HA.out hhi _) (by simp; omega) HD2.out hn hN1).mono ?_
  rintro e w1 ⟨rfl, hi1, k1⟩
  obtain ⟨BX1, hdx1⟩ := k1.blk BX HDX.out
  have at1 := k1.at_ (Vs.at_alloc HA.out hhi _) (by simp; omega) HD2.out
  have K2 := K1.trans k1
  have hD2 : ∀ k, k < hi → ¬ D w1 k := fun k hk => (k1.block k (by simp; omega) (HD2.out k hk)).2
  have hhi1 : hi ≤ w1.heap.size := Nat.le_trans hhi K2.size
  have b4 : w1.cell? ⟨w.heap.size, 4, none⟩ = some (.slice A v.kids.length c) := BX1.cell 4
  have HB := Lib.hid BX1
  have HX := Lib.hid hdx1
  have HI2 := Lib.hid hi1
  have HA1 := Lib.hid at1
  have HK2 := Lib.hid K2
  have HDD := Lib.hid hD2
  clear BX1 hdx1 hi1 at1 K2 hD2 k1 K1 HI1 BX
  go_wp2_with fail
  go_loopw [12] (fun i wr => ∃ j : Nat, j ≤ v.kids.length ∧ i = .int .i64 j ∧ WRel Inv D xs v w hi j wr) (fun i _ => v.kids.length - (intOf i).toNat)
  case atStart => exact ⟨0, Nat.zero_le _, rfl, by simpa [Vs.pre] using HI2.out, HK2.out, HDD.out⟩
  case round =>
    obtain ⟨j, hj, rfl, r1, r2, r3⟩ := hrel
    by_cases hlt : j < v.kids.length
    · have hhr : hi ≤ wr.heap.size := Nat.le_trans hhi r2.size
      obtain ⟨b, off, A', cap', rfl, g1, g2, g3, ⟨c0, c1, c2, c3, c4⟩, g5⟩ := Vs.at_get j hlt (r2.at_ HA.out hhi HD.out)
      have R1 := Lib.hid r1
      have R2 := Lib.hid r2
      have R3 := Lib.hid r3
      clear r1 r2 r3 b4
      go_wp2_with fail
      have e2 := HY.out.alloc _ wr (.cells #[.int .i64 (v.kids[j]).k, .int .i64 (v.kids[j]).n, .int .i64 (v.kids[j]).e, .string (v.kids[j]).s, .slice A' (v.kids[j]).kids.length cap'] 29) R1.out
      have k2 := HY.out.kept R1.out (.cells #[.int .i64 (v.kids[j]).k, .int .i64 (v.kids[j]).n, .int .i64 (v.kids[j]).e, .string (v.kids[j]).s, .slice A' (v.kids[j]).kids.length cap'] 29)
      have hd2 : ∀ k, k < hi → ¬ D (wr.alloc (.cells #[.int .i64 (v.kids[j]).k, .int .i64 (v.kids[j]).n, .int .i64 (v.kids[j]).e, .string (v.kids[j]).s, .slice A' (v.kids[j]).kids.length cap'] 29)) k := fun k hk h => R3.out k hk (e2.2 k h).1
      refine (HC.out j hlt A' cap' _ _ hi e2.1 (Vs.at_alloc g5 hhr _) (by simp; omega) hd2 (by have := Vs.nodes_get j hlt; have := HN.out; omega) (by have := take_pre_len v.kids j hlt; have := HN.out; simp; omega)).mono ?_
      rintro e w3 ⟨rfl, hi3, k3⟩
      have K3 := (R2.out.trans k2).trans k3
      have hd3 : ∀ k, k < hi → ¬ D w3 k := fun k hk => (k3.block k (by simp; omega) (hd2 k hk)).2
      have HK3 := Lib.hid K3
      have HD3 := Lib.hid hd3
      have HI3 := Lib.hid hi3
      clear c0 c1 c2 c3 c4 K3 hd3 hi3 k3 hd2 k2 e2
      go_wp2_with fail
      go_roundw
      case rel => exact ⟨j + 1, by omega, by go_num, wrel_next hlt HI3.out, HK3.out, HD3.out⟩
      case measure => simp [intOf]; omega
    · obtain rfl : j = v.kids.length := by omega
      have R1 := Lib.hid r1
      have R2 := Lib.hid r2
      clear r1 r2 r3 b4
      go_wp2_with fail
      go_end0
      refine ⟨rfl, ?_, R2.out⟩
      have h := R1.out
      rw [List.take_length] at h
      rw [HP.out]
      exact h
theorem walk_any {F : FuncId} {caps : Array Value} {Inv : List V → World → Prop} {D : World → Nat → Prop} {N : Nat} (Y : Yields F caps Inv D N) : ∀ v, WalkSaid F caps Inv D N v := V.all (walk_step Y)
end Go.Proofs.YtlfiaccpihjldaaDoor
