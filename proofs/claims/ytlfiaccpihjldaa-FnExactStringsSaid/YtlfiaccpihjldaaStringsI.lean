/-
  Strings of the program: the texts and bytes in a value, in a row of their own.
-/
import Derived.Test.YtlfiaccpihjldaaStrings
namespace Go.Proofs.Ytlfiaccpihjldaa
open Go.RowKit
set_option linter.unusedVariables false
set_option linter.unusedSimpArgs false

theorem own_same' {w w' : World} {base e size n : Nat} {v : Value} {xs : List Value} (h : w.ownsRow base e size v n xs) (hb : ∀ g, v.ownBlock = some g → w'.heap[g]? = w.heap[g]?) : w'.ownsRow base e size v n xs := by
  refine ⟨h.1, ?_⟩
  rcases h.2 with h' | ⟨g, c, cur, rfl, h1, h2, h3⟩
  · exact .inl h'
  · exact .inr ⟨g, c, cur, rfl, h1, (hb g rfl).trans h2, h3⟩
/-- The row that the walk's function holds in its variable. -/
def StInv (q b : Nat) (xs : List V) (w : World) : Prop := b ≤ q ∧ ∃ o, Blk w q 34 #[o] ∧ w.ownsRow b 9 1 o (textsOf xs).length ((textsOf xs).map tv) ∧ o.ownBlock ≠ some q
def StD (q : Nat) (w : World) (k : Nat) : Prop := k = q ∨ ∃ o, Blk w q 34 #[o] ∧ o.ownBlock = some k
theorem Blk.uniq {w : World} {q : Nat} {t : TypeId} {o o' : Value} (h : Blk w q t #[o]) (h' : Blk w q t #[o']) : o = o' := by
  have := h.symm.trans h'
  simpa using this

theorem st_keep {q : Nat} {w w1 w' : World} {o v' : Value} (hB : Blk w q 34 #[o]) (hne : o.ownBlock ≠ some q)
    (h1 : Below w.heap.size w w1) (hg : w1.grownBy w' o.ownBlock) (hv : v'.ownBlock = o.ownBlock ∨ v'.ownBlock = some w1.heap.size) :
    Blk (w'.setCell ⟨q, 0, none⟩ v') q 34 #[v'] ∧ v'.ownBlock ≠ some q ∧ Keep (StD q) w (w'.setCell ⟨q, 0, none⟩ v') := by
  have hq := hB.lt
  have hq1 : q < w1.heap.size := Nat.lt_of_lt_of_le hq h1.size
  have hB1 : Blk w1 q 34 #[o] := hB.below h1 hq
  have hB2 : Blk w' q 34 #[o] := (hg.block q hq1 (fun e => hne e.symm)).trans hB1
  have hB3 := hB2.set1 v'
  have hvq : v'.ownBlock ≠ some q := by
    rcases hv with h | h
    · rw [h]; exact hne
    · rw [h]; intro e; injection e; omega
  refine ⟨hB3, hvq, ⟨hg.os.trans h1.os, hg.tape.trans h1.tape, hg.output.trans h1.output, by simpa using Nat.le_trans h1.size hg.size, fun k hk hd => ⟨?_, ?_⟩⟩⟩
  · have hkq : k ≠ q := fun e => hd (.inl e)
    have hko : some k ≠ o.ownBlock := fun e => hd (.inr ⟨o, hB, e.symm⟩)
    rw [Below.heap_setCell _ _ _ _ (by exact hkq), hg.block k (Nat.lt_of_lt_of_le hk h1.size) hko, h1.block k hk]
  · rintro (h | ⟨o', ho', he⟩)
    · exact hd (.inl h)
    · obtain rfl := Blk.uniq hB3 ho'
      rcases hv with h | h
      · exact hd (.inr ⟨o, hB, by rw [← h]; exact he⟩)
      · rw [h] at he
        injection he with he
        have := h1.size
        omega
theorem st_keep0 {q : Nat} {w w1 : World} {o : Value} (hB : Blk w q 34 #[o]) (h1 : Below w.heap.size w w1) : Keep (StD q) w w1 :=
  ⟨h1.os, h1.tape, h1.output, h1.size, fun k hk hd => ⟨h1.block k hk, by
    rintro (h | ⟨o', ho', he⟩)
    · exact hd (.inl h)
    · obtain rfl := Blk.uniq (hB.below h1 hB.lt) ho'
      exact hd (.inr ⟨o, hB, he⟩)⟩⟩

set_option maxHeartbeats 1000000 in
theorem strings_yields (q b : Nat) : Yields 37 #[.pointer (some ⟨q, 0, none⟩)] (fun xs w => StInv q b xs w) (StD q) 1048577 where
  enters := enters_of Try.func37 (by kernel_rfl) rfl
  alloc := fun xs w o' h => by
    obtain ⟨hbq, o, hB, hown, hne⟩ := h
    refine ⟨⟨hbq, o, hB.alloc o', hown.alloc o', hne⟩, fun k hk => ?_⟩
    rcases hk with h | ⟨o2, h2, he⟩
    · exact ⟨.inl h, by rw [h]; exact hB.lt⟩
    · obtain rfl := Blk.uniq (hB.alloc o') h2
      exact ⟨.inr ⟨_, hB, he⟩, (hown.lt k he).2⟩
  step := by
    intro xs x A c w hi hinv hat hhi hD hn hxl
    obtain ⟨hbq, o, hB, hown, hne⟩ := hinv
    have hlq := hB.lt
    have hbw : b ≤ w.heap.size := by omega
    have hlen := textsOf_len xs
    have HB := Lib.hid hB
    have HO := Lib.hid hown
    have HNE := Lib.hid hne
    have c0 : (w.alloc (.cells #[.int .i64 x.k, .int .i64 x.n, .int .i64 x.e, .string x.s, .slice A x.kids.length c] 29)).cell? ⟨q, 0, none⟩ = some o := (hB.alloc _).cell 0
    clear hB hown hne hat hD
    unfold V.agg
    show Calls Try.prog 37 #[_, _] w _
    by_cases ht : x.isT = true
    · have hs : textsOf (xs ++ [x]) = textsOf xs ++ [x.s] := by rw [textsOf_append, textsOf_yes _ ht]; rfl
      have HS := Lib.hid hs
      have hcase : (x.k == 5) = true ∨ ((x.k == 5) = false ∧ (x.k == 6) = true) := by
        unfold V.isT at ht
        cases h5 : (x.k == 5) with
        | true => exact .inl rfl
        | false => rw [h5] at ht; exact .inr ⟨rfl, by simpa using ht⟩
      have hcn : ∀ (j : Nat) (u : Value), #[Value.string x.s].toList[j]? = some u → ((w.alloc (.cells #[.int .i64 x.k, .int .i64 x.n, .int .i64 x.e, .string x.s, .slice A x.kids.length c] 29)).alloc (.cells #[.string x.s] 9)).cell? ((⟨w.heap.size + 1, 0, none⟩ : Addr).add j) = some u := by
        intro j u hu
        have h := cells_new (w.alloc (.cells #[.int .i64 x.k, .int .i64 x.n, .int .i64 x.e, .string x.s, .slice A x.kids.length c] 29)) #[.string x.s] 9 j u hu
        rw [show (w.alloc (.cells #[.int .i64 x.k, .int .i64 x.n, .int .i64 x.e, .string x.s, .slice A x.kids.length c] 29)).heap.size = w.heap.size + 1 by simp] at h
        exact h
      have HCN := Lib.hid hcn
      clear hs ht hcn
      rcases hcase with h5 | ⟨h5, h6⟩
      all_goals
        go_enter Try.func37, Try.ntmps37
        go_wp2_with (at_builtin; refine wpList_app2 rfl (.tmp 11) (.tmp 14) 34 rfl b 9 Try.underlying34 infoStr' rfl (by decide) (by rfl) ((HO.out.alloc _).alloc _) (by simp; omega) _ 1 1 _ (by rfl) rfl HCN.out (one_tv _) (by unfold maxLen; omega) (by omega) ?_; intro v' w' hown' hg' hv'; obtain ⟨Av, cv, rfl⟩ := own_slice hown'; obtain ⟨kB, kv, kK⟩ := st_keep HB.out HNE.out (((Below.refl _ w).alloc (Nat.le_refl _) _).alloc (by simp) _) hg' hv'; have kc := (show Blk w' q 34 #[o] from (hg'.block q (by simp; omega) (fun e => HNE.out e.symm)).trans ((HB.out.alloc _).alloc _)).cell 0; have kf := (show Blk w' q 34 #[o] from (hg'.block q (by simp; omega) (fun e => HNE.out e.symm)).trans ((HB.out.alloc _).alloc _)).frozen 0; have KB := Lib.hid kB; have KV := Lib.hid kv; have KK := Lib.hid kK; have KO := Lib.hid hown'; clear kB kv kK hown' hg' hv')
        go_end0
        refine ⟨rfl, ⟨hbq, _, KB.out, ?_, KV.out⟩, KK.out⟩
        rw [HS.out, List.length_append, List.map_append]
        exact own_same' KO.out fun g hg => Below.heap_setCell _ _ _ _ (fun e => KV.out (by rw [hg]; congr 1))
    · have hF : x.isT = false := by simpa using ht
      have hs : textsOf (xs ++ [x]) = textsOf xs := by rw [textsOf_append, textsOf_no _ hF]; simp [textsOf]
      have HS := Lib.hid hs
      have hcase : (x.k == 5) = false ∧ (x.k == 6) = false := by
        unfold V.isT at hF
        cases h5 : (x.k == 5) with
        | true => rw [h5] at hF; cases hF
        | false => rw [h5] at hF; exact ⟨rfl, by simpa using hF⟩
      obtain ⟨h5, h6⟩ := hcase
      clear hs ht hF
      go_enter Try.func37, Try.ntmps37
      go_wp2_with fail
      go_end0
      refine ⟨rfl, ⟨hbq, o, HB.out.alloc _, ?_, HNE.out⟩, st_keep0 HB.out ((Below.refl _ w).alloc (Nat.le_refl _) _)⟩
      rw [HS.out]
      exact HO.out.alloc _

set_option maxHeartbeats 1000000 in
theorem implStrings (v : V) (A : Option Addr) (cap : Nat) (w : World) (hn : v.nodes ≤ 1048577) (hat : Vs.at_ w 0 w.heap.size v.kids A) :
    Calls Try.prog 23 #[v.agg A cap] w fun e w' => ∃ o, e = .returned o ∧ w'.ownsRow (w.heap.size + 1) 9 1 o v.texts.length (v.texts.map tv) ∧ Below w.heap.size w w' := by
  have HA := Lib.hid hat
  clear hat
  unfold V.agg
  go_enter Try.func23, Try.ntmps23
  go_wp2_with fail
  obtain ⟨w2, hw2⟩ : ∃ w2, w2 = ((w.alloc (.cells #[.int .i64 v.k, .int .i64 v.n, .int .i64 v.e, .string v.s, .slice A v.kids.length cap] 29)).alloc (.cells #[] 9)).alloc (.cells #[.slice (some ⟨w.heap.size + 1, 0, none⟩) 0 0] 34) := ⟨_, rfl⟩
  have z2 : w2.heap.size = w.heap.size + 3 := by rw [hw2]; simp
  have hB : Blk w2 (w.heap.size + 2) 34 #[.slice (some ⟨w.heap.size + 1, 0, none⟩) 0 0] := by
    have h := Blk.new ((w.alloc (.cells #[.int .i64 v.k, .int .i64 v.n, .int .i64 v.e, .string v.s, .slice A v.kids.length cap] 29)).alloc (.cells #[] 9)) 34 #[.slice (some ⟨w.heap.size + 1, 0, none⟩) 0 0]
    rw [← hw2] at h
    simpa using h
  have b2 : Below w.heap.size w w2 := by rw [hw2]; exact (((Below.refl _ w).alloc (Nat.le_refl _) _).alloc (by simp) _).alloc (by simp; omega) _
  have ho : w2.ownsRow (w.heap.size + 1) 9 1 (.slice (some ⟨w.heap.size + 1, 0, none⟩) 0 0) 0 [] := by
    have h := (own_empty' (w := w.alloc (.cells #[.int .i64 v.k, .int .i64 v.n, .int .i64 v.e, .string v.s, .slice A v.kids.length cap] 29)) (base := w.heap.size + 1) 9 1 (by simp)).alloc (.cells #[.slice (some ⟨w.heap.size + 1, 0, none⟩) 0 0] 34)
    rw [← hw2] at h
    simpa using h
  rw [← hw2]
  clear hw2
  have hinv : StInv (w.heap.size + 2) (w.heap.size + 1) [] w2 := ⟨by omega, _, hB, ho, by simp [Value.ownBlock]⟩
  have hd : ∀ k, k < w.heap.size → ¬ StD (w.heap.size + 2) w2 k := by
    rintro k hk (h | ⟨o, h1, h2⟩)
    · omega
    · obtain rfl := Blk.uniq hB h1
      simp [Value.ownBlock] at h2
      omega
  refine (walk_any (strings_yields (w.heap.size + 2) (w.heap.size + 1)) v A cap [] w2 w.heap.size hinv (Vs.at_below HA.out b2 (Nat.le_refl _)) b2.size hd hn (by simpa using hn)).mono ?_
  rintro e w3 ⟨rfl, ⟨_, o, hB3, hown3, _⟩, k3⟩
  have hb3 := k3.below b2 b2.size hd
  obtain ⟨Ao, co, rfl⟩ := own_slice hown3
  have c0 := hB3.cell 0
  have HO := Lib.hid hown3
  clear hown3 hB3 k3 hinv hB ho hd
  go_wp2_with fail
  go_ret
  exact ⟨_, rfl, HO.out, hb3⟩
theorem specStringsRow (v : V) (A : Option Addr) (cap : Nat) (w : World) (hn : v.nodes ≤ 1048577) (hat : Vs.at_ w 0 w.heap.size v.kids A) :
    Calls Try.prog 22 #[v.agg A cap] w fun e w' => ∃ o, e = .returned o ∧ w'.ownsRow (w.heap.size + 1) 9 1 o v.texts.length (v.texts.map tv) ∧ Below w.heap.size w w' :=
  (specStrings v A cap w hn hat).mono fun _ _ ⟨o, h1, h2, _, h4⟩ => ⟨o, h1, h2, h4⟩
theorem implStringsRow (v : V) (A : Option Addr) (cap : Nat) (w : World) (hn : v.nodes ≤ 1048577) (hat : Vs.at_ w 0 w.heap.size v.kids A) :
    Calls Try.prog 23 #[v.agg A cap] w fun e w' => ∃ o, e = .returned o ∧ w'.ownsRow (w.heap.size + 1) 9 1 o v.texts.length (v.texts.map tv) ∧ Below w.heap.size w w' := implStrings v A cap w hn hat
end Go.Proofs.Ytlfiaccpihjldaa
