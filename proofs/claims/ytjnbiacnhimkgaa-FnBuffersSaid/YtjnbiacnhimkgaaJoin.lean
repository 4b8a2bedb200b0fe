/-
  Contract of joined. Conditions: the chunks can be read, and end below the greatest number.
-/
import Derived.Test.YtjnbiacnhimkgaaPut
import Derived.Test.YtjnbiacnhimkgaaSteady
import Derived.RegionTactic
import Derived.BigRegion
namespace Go.Proofs.Ytjnbiacnhimkgaa
open Go.ChangeShapes Go.WideShapes Go.ChangeAt Go.RowKit
set_option linter.unusedSimpArgs false
set_option linter.unusedVariables false
/-- Chunks that end below the greatest number. -/
def WB (cs : List Ck) : Prop := ∀ c ∈ cs, 0 ≤ c.1 ∧ c.1 + (c.2.size : Int) ≤ 4611686018427387903
theorem WB.at {cs : List Ck} (h : WB cs) {k : Nat} (hk : k < cs.length) : 0 ≤ (cs.getD k dk).1 ∧ (cs.getD k dk).1 + ((cs.getD k dk).2.size : Int) ≤ 4611686018427387903 :=
  h _ (by simp [List.getD, List.getElem?_eq_getElem hk])
def joinK (cs : List Ck) (k : Nat) : List Ck := (cs.take k).foldl joinStep []
theorem joinK_succ (cs : List Ck) {k : Nat} (hk : k < cs.length) : joinK cs (k + 1) = joinStep (joinK cs k) (cs.getD k dk) := by
  unfold joinK
  rw [takeC_succ cs hk, List.foldl_append]; rfl
theorem joinK_all (cs : List Ck) : joinK cs cs.length = joined cs := by
  unfold joinK joined; rw [List.take_length]
theorem joinStep_nil (c : Ck) : joinStep [] c = [] ++ [c] := rfl
theorem snoc_of {L : List Ck} {p : Nat} (h : L.length = p + 1) : ∃ (A : List Ck) (l : Ck), L = A ++ [l] ∧ A.length = p := by
  refine ⟨L.dropLast, L.getLast (by intro e; subst e; simp at h), (List.dropLast_concat_getLast _).symm, by simp [h]⟩
theorem joinStep_wb {L : List Ck} {c : Ck} (h : WB L) (hc : 0 ≤ c.1 ∧ c.1 + (c.2.size : Int) ≤ 4611686018427387903) : WB (joinStep L c) ∧ (joinStep L c).length ≤ L.length + 1 := by
  rcases hL : L.length with _ | p
  · obtain rfl := List.eq_nil_of_length_eq_zero hL
    exact ⟨fun d hd => by rw [joinStep_nil] at hd; simp at hd; subst hd; exact hc, by simp [joinStep]⟩
  · obtain ⟨A, l, rfl, hA⟩ := snoc_of hL
    have hl := h l (by simp)
    rw [joinStep_last]
    split
    · rename_i e
      refine ⟨fun d hd => ?_, by simp; omega⟩
      rcases List.mem_append.1 hd with hd | hd
      · exact h d (by simp [hd])
      · simp at hd
        subst hd
        have hz : (l.2 ++ c.2).size = l.2.size + c.2.size := ByteArray.size_append
        refine ⟨hl.1, ?_⟩
        show l.1 + ((l.2 ++ c.2).size : Int) ≤ _
        omega
    · refine ⟨fun d hd => ?_, by simp; omega⟩
      rcases List.mem_append.1 hd with hd | hd
      · exact h d hd
      · simp at hd
        subst hd
        exact hc
theorem joinK_wb {cs : List Ck} (h : WB cs) : ∀ k, k ≤ cs.length → WB (joinK cs k) ∧ (joinK cs k).length ≤ k
  | 0, _ => ⟨fun d hd => by simp [joinK] at hd, by simp [joinK]⟩
  | k + 1, hk => by
    rw [joinK_succ cs (by omega)]
    obtain ⟨h1, h2⟩ := joinK_wb h k (by omega)
    obtain ⟨h3, h4⟩ := joinStep_wb h1 (h.at (k := k) (by omega))
    exact ⟨h3, by omega⟩
theorem ckCells_append (A B : List Ck) : ckCells (A ++ B) = ckCells A ++ ckCells B := by simp [ckCells]
theorem ckCells_setLast (A : List Ck) (l : Ck) (s : ByteArray) : (ckCells (A ++ [l])).set (A.length * 2 + 1) (.string s) = ckCells (A ++ [(l.1, s)]) := by
  rw [ckCells_append, ckCells_append, List.set_append_right _ _ (by rw [ckCells_length]; omega), ckCells_length]
  congr 1
  rw [show A.length * 2 + 1 - A.length * 2 = 1 from by omega]
  rfl
theorem ckCells_lastAt (A : List Ck) (l : Ck) : (ckCells (A ++ [l]))[A.length * 2]? = some (.int .i64 l.1) ∧ (ckCells (A ++ [l]))[A.length * 2 + 1]? = some (.string l.2) := by
  have h := ckCells_at (A ++ [l]) A.length (by simp)
  have e : (A ++ [l]).getD A.length dk = l := by simp [List.getD]
  rwa [e] at h
set_option maxHeartbeats 2000000 in
set_option maxRecDepth 100000 in
theorem joined_any (ao : Option Addr) (n ca : Nat) (xs : List Ck) (w : World) (hx : ReadC w ao xs) (hn : xs.length = n) (hl : n ≤ 4194304) (hwb : WB xs) :
    Calls Try.prog 36 #[.slice ao n ca] w fun e w' => ∃ (ao' : Option Addr) (ca' : Nat), e = .returned (.slice ao' (joined xs).length ca') ∧ OwnC w.heap.size w'.heap.size w' ao' (joined xs) ∧ Ext w w' := by
  obtain ⟨i0, hi0, hz0, hz1, hz2⟩ := info_parts infoChunk
  have hn' := hide hn
  have hx' := hide hx
  have hwb' := hide hwb
  clear hn hx hwb
  go_enter Try.func36, Try.ntmps36
  go_wp2_with fail
  go_loopw [3, 10] (fun s i wr => ∃ (k : Nat) (ao1 : Option Addr) (ca1 : Nat), i = .int .i64 k ∧ k ≤ n ∧ s = .slice ao1 (joinK xs k).length ca1 ∧ wr.ownsRow w.heap.size 53 2 s (joinK xs k).length (ckCells (joinK xs k)) ∧ Chg (fun b => w.heap.size ≤ b) w wr) (fun _ i _ => n - (intOf i).toNat)
  case atStart => exact ⟨0, _, _, rfl, by omega, rfl, World.ownsRow_made w #[] 0 (Nat.le_refl _) (by decide) rfl, (Chg.refl _ _).alloc _⟩
  case round =>
    obtain ⟨k, ao1, ca1, rfl, hk, rfl, hown, hg⟩ := hrel
    have hown' := hide hown
    clear hown
    by_cases hlt : k < n
    · have hkx : k < xs.length := by rw [hn'.out]; exact hlt
      have hst := hide (joinK_succ xs hkx)
      obtain ⟨wb1, len1⟩ := joinK_wb hwb'.out k (by omega)
      obtain ⟨z1, z2⟩ := hwb'.out.at hkx
      rcases hx'.out with hnil | ⟨bx, off, rfl, hx⟩
      · rw [hnil] at hkx; simp at hkx
      obtain ⟨cx, cx2⟩ := hx k hkx
      have la : bx < w.heap.size := World.block_lt_of_cell? w _ cx
      have hr := (hg.row la (by omega)).1
      have dx := (hr _).trans cx
      have dx2 := (hr _).trans cx2
      have i1 : (0 : Int) ≤ (k : Int) := by omega
      have i2 : (k : Int) < (n : Int) := by omega
      clear hx cx cx2 hr
      generalize hL : joinK xs k = L at *
      generalize xs.getD k dk = c at *
      obtain ⟨o, s⟩ := c
      dsimp only at *
      have hgsz := hg.size
      generalize hm : L.length = m at *
      have hm' := hide hm
      clear hm
      rcases m with _ | p
      · obtain rfl := List.eq_nil_of_length_eq_zero hm'.out
        rw [joinStep_nil] at hst
        go_wp2_with fail
        refine wp_region_seq (Ext _) (by kernel_rfl) (by kernel_rfl) ((Ext.refl _).drew) ?_
        iterate 12 (((first | (refine wpSeqS_off rfl (by rfl) ?_) | (refine wpSeqS_plain (v := ?_) rfl (by rfl) ?_ ?_; rotate_left; (focus (intro ws hws; obtain ⟨q0, p0⟩ := hws.row (k := wr.heap.size) (by first | assumption | (simp; done) | (simp; omega) | omega); go_simp; (try with_reducible rfl); done))) | (refine wpSeqS_call (v := ?_) 33 ?_ rfl (by rfl) ?_ ?_ ?_; rotate_left; rotate_left; (focus (intro ws hws; skip; go_simp; (try with_reducible rfl); done)); (focus (intro ws hws; refine (end_any (o, s) _ (by omega) (by omega)).mono ?_; rintro e w' ⟨rfl, h2⟩; refine ⟨?_, hws.trans h2⟩; (try simp only [*]); (try with_reducible rfl); done))) | fail)); (try simp only [Act.put, List.getElem_toArray, List.getElem_cons_zero, List.getElem_cons_succ, List.setIfInBounds_toArray, List.set_cons_zero, List.set_cons_succ]))
        refine wpSeqS_done (by kernel_rfl) (fun ws hws => ?_)

        obtain ⟨cE, fE⟩ := hws.row (k := wr.heap.size) (by simp)
        have e0 : ws.cell? ⟨wr.heap.size, 0, none⟩ = some (.int .i64 o) := (by rw [cE]; simp [go_sem])
        have e1 : ws.cell? ⟨wr.heap.size, 1, none⟩ = some (.string s) := (by rw [cE]; simp [go_sem])
        have xws : Ext wr ws := ((Ext.refl wr).alloc _).trans hws
        have hgs : wr.heap.size < ws.heap.size := by have := hws.size; simp at this; omega
        have hownA : (ws.alloc (.cells #[.int .i64 o, .string s] 53)).ownsRow w.heap.size 53 2 (.slice ao1 0 ca1) 0 (ckCells ([])) := (own_ext hown'.out xws).alloc _
        clear cE
        go_wp2_with (at_builtin; refine wpList_append_lies _ rfl _ _ _ (by rfl) w.heap.size 53 i0 _ 2 24 Try.underlying24 hi0 hz0 hz1 hz2 rfl (by omega) _ _ _ (by rfl) hownA ⟨ws.heap.size, 0, none⟩ 1 1 [.int .i64 o, .string s] (by rfl) (by rfl) (World.news_of_block (cs := #[.int .i64 o, .string s]) (t := 53) (fr := (0, 0)) (heap_alloc_new ws _)) (by simp [Value.oneCell']) (by omega) (by simp [maxLen] <;> omega) (by omega) (by simp; omega) _ rfl ?_)
        intro gg cap w2 hown1 hgrow hat hlt2
        rw [ckCells_app] at hown1
        have hlen2 : Hid ((joinK xs (k + 1)).length = 0 + 1) := hide (by rw [hst.out, List.length_append, hm'.out]; rfl)
        rw [← hst.out] at hown1
        go_wp2
        go_roundw
        case rel =>
          refine ⟨k + 1, _, cap, by go_num, by omega, by rw [hlen2.out], by rw [hlen2.out]; exact hown1, ?_⟩
          exact (hg.trans (xws.chg _)).trans (((Chg.refl _ _).alloc _).trans (grown_chg hgrow (fun k hk => (hown'.out.lt _ hk).1)))
        case measure => simp [intOf]; omega
      · obtain ⟨A, l, rfl, hA⟩ := snoc_of hm'.out
        have hA' := hide hA
        clear hA
        obtain ⟨y1, y2⟩ := wb1 l (by simp)
        obtain ⟨g, cp, hsl, hgb, hgw⟩ := hown'.out.form (Nat.succ_pos p)
        obtain ⟨rfl, rfl⟩ : ao1 = some ⟨g, 0, none⟩ ∧ ca1 = cp := by simpa using hsl
        obtain ⟨v0, v1⟩ := ckCells_lastAt A l
        rw [hA'.out] at v0 v1
        have g0 := (hown'.out.cellAt (p * 2) (by omega)).trans v0
        have g1 := (hown'.out.cellAt (p * 2 + 1) (by omega)).trans v1
        have gF := hown'.out.frozenAt
        have hp1 : IntKind.i64.wrap (((p + 1 : Nat) : Int) - 1) = (p : Int) := by
          rw [show (((p + 1 : Nat) : Int) - 1) = (p : Int) from by omega]
          exact IntWalk.i64_in _ (by omega)
        have p0 : (0 : Int) ≤ (p : Int) := by omega
        have p1 : (p : Int) < ((p + 1 : Nat) : Int) := by omega
        have p2 : (p : Int) < (p : Int) + 1 := by omega
        have hne : g ≠ wr.heap.size := by omega
        have hne2 : wr.heap.size ≠ g := by omega
        rw [joinStep_last] at hst
        clear v0 v1 hsl
        by_cases he : l.1 + (l.2.size : Int) = o
        · have heb : (l.1 + (l.2.size : Int) == o) = true := beq_iff_eq.2 he
          have hst2 := hide (hst.out.trans (if_pos he))
          have he' := hide he
          clear hst he
          go_wp2_with fail
          refine wp_region_seq (Ext _) (by kernel_rfl) (by kernel_rfl) ((Ext.refl _).drew) ?_
          iterate 12 (((first | (refine wpSeqS_off rfl (by rfl) ?_) | (refine wpSeqS_plain (v := ?_) rfl (by rfl) ?_ ?_; rotate_left; (focus (intro ws hws; obtain ⟨q0, p0⟩ := hws.row (k := wr.heap.size) (by first | assumption | (simp; done) | (simp; omega) | omega); obtain ⟨q1, p1⟩ := hws.row (k := g) (by first | assumption | (simp; done) | (simp; omega) | omega); go_simp; (try with_reducible rfl); done))) | (refine wpSeqS_call (v := ?_) 33 ?_ rfl (by rfl) ?_ ?_ ?_; rotate_left; rotate_left; (focus (intro ws hws; skip; go_simp; (try with_reducible rfl); done)); (focus (intro ws hws; refine (end_any l _ (by omega) (by omega)).mono ?_; rintro e w' ⟨rfl, h2⟩; refine ⟨?_, hws.trans h2⟩; (try simp only [*]); (try with_reducible rfl); done))) | fail)); (try simp only [Act.put, List.getElem_toArray, List.getElem_cons_zero, List.getElem_cons_succ, List.setIfInBounds_toArray, List.set_cons_zero, List.set_cons_succ]))
          refine wpSeqS_done (by kernel_rfl) (fun ws hws => ?_)

          have xws : Ext wr ws := ((Ext.refl wr).alloc _).trans hws
          obtain ⟨cE, fE⟩ := hws.row (k := wr.heap.size) (by simp)
          have e0 : ws.cell? ⟨wr.heap.size, 0, none⟩ = some (.int .i64 o) := (by rw [cE]; simp [go_sem])
          have e1 : ws.cell? ⟨wr.heap.size, 1, none⟩ = some (.string s) := (by rw [cE]; simp [go_sem])
          obtain ⟨cg, fg⟩ := xws.row (k := g) hgw
          have d0 := (cg _).trans g0
          have d1 := (cg _).trans g1
          have dF : ∀ q, ws.frozen? ⟨g, q, none⟩ = false := fun q => (fg q).trans (gF q)
          have hz1 : l.2.size + s.size ≤ 9223372036854775807 := by have := he'.out; omega
          have hownW : ws.drew.ownsRow w.heap.size 53 2 (.slice (some ⟨g, 0, none⟩) (p + 1) ca1) (p + 1) (ckCells (A ++ [l])) := own_ext hown'.out xws.drew
          clear cE fE cg fg g0 g1 gF
          go_wp2_with fail
          go_region
          have hlen2 : Hid ((joinK xs (k + 1)).length = p + 1) := hide (by rw [hst2.out, List.length_append, hA'.out]; rfl)
          have hown2 := (hownW.stored (p * 2 + 1) (.string (l.2 ++ s))).1
          have hkey := ckCells_setLast A l (l.2 ++ s)
          rw [hA'.out, ← hst2.out] at hkey
          rw [hkey] at hown2
          go_wp2
          go_roundw
          case rel =>
            refine ⟨k + 1, _, ca1, by go_num, by omega, by rw [hlen2.out], by rw [hlen2.out]; exact hown2, ?_⟩
            exact (hg.trans (xws.chg _)).trans (Chg.set (p := ⟨g, p * 2 + 1, none⟩) (Or.inl hgb) ((Chg.refl _ _).drew) _)
          case measure => simp [intOf]; omega
        · have heb : (l.1 + (l.2.size : Int) == o) = false := beq_eq_false_iff_ne.2 he
          have hst2 := hide (hst.out.trans (if_neg he))
          clear hst he
          have hst := hst2
          clear hst2
          go_wp2_with fail
          refine wp_region_seq (Ext _) (by kernel_rfl) (by kernel_rfl) ((Ext.refl _).drew) ?_
          iterate 12 (((first | (refine wpSeqS_off rfl (by rfl) ?_) | (refine wpSeqS_plain (v := ?_) rfl (by rfl) ?_ ?_; rotate_left; (focus (intro ws hws; obtain ⟨q0, p0⟩ := hws.row (k := wr.heap.size) (by first | assumption | (simp; done) | (simp; omega) | omega); obtain ⟨q1, p1⟩ := hws.row (k := g) (by first | assumption | (simp; done) | (simp; omega) | omega); go_simp; (try with_reducible rfl); done))) | (refine wpSeqS_call (v := ?_) 33 ?_ rfl (by rfl) ?_ ?_ ?_; rotate_left; rotate_left; (focus (intro ws hws; skip; go_simp; (try with_reducible rfl); done)); (focus (intro ws hws; refine (end_any l _ (by omega) (by omega)).mono ?_; rintro e w' ⟨rfl, h2⟩; refine ⟨?_, hws.trans h2⟩; (try simp only [*]); (try with_reducible rfl); done))) | fail)); (try simp only [Act.put, List.getElem_toArray, List.getElem_cons_zero, List.getElem_cons_succ, List.setIfInBounds_toArray, List.set_cons_zero, List.set_cons_succ]))
          refine wpSeqS_done (by kernel_rfl) (fun ws hws => ?_)
          obtain ⟨cE, fE⟩ := hws.row (k := wr.heap.size) (by simp)
          have e0 : ws.cell? ⟨wr.heap.size, 0, none⟩ = some (.int .i64 o) := (by rw [cE]; simp [go_sem])
          have e1 : ws.cell? ⟨wr.heap.size, 1, none⟩ = some (.string s) := (by rw [cE]; simp [go_sem])
          have xws : Ext wr ws := ((Ext.refl wr).alloc _).trans hws
          have hgs : wr.heap.size < ws.heap.size := by have := hws.size; simp at this; omega
          have hownA : (ws.alloc (.cells #[.int .i64 o, .string s] 53)).ownsRow w.heap.size 53 2 (.slice (some ⟨g, 0, none⟩) (p + 1) ca1) (p + 1) (ckCells (A ++ [l])) := (own_ext hown'.out xws).alloc _
          clear cE
          go_wp2_with (at_builtin; refine wpList_append_lies _ rfl _ _ _ (by rfl) w.heap.size 53 i0 _ 2 24 Try.underlying24 hi0 hz0 hz1 hz2 rfl (by omega) _ _ _ (by rfl) hownA ⟨ws.heap.size, 0, none⟩ 1 1 [.int .i64 o, .string s] (by rfl) (by rfl) (World.news_of_block (cs := #[.int .i64 o, .string s]) (t := 53) (fr := (0, 0)) (heap_alloc_new ws _)) (by simp [Value.oneCell']) (by omega) (by simp [maxLen] <;> omega) (by omega) (by simp; omega) _ rfl ?_)
          intro gg cap w2 hown1 hgrow hat hlt2
          rw [ckCells_app] at hown1
          have hlen2 : Hid ((joinK xs (k + 1)).length = (p + 1) + 1) := hide (by rw [hst.out, List.length_append, hm'.out]; rfl)
          rw [← hst.out] at hown1
          go_wp2
          go_roundw
          case rel =>
            refine ⟨k + 1, _, cap, by go_num, by omega, by rw [hlen2.out], by rw [hlen2.out]; exact hown1, ?_⟩
            exact (hg.trans (xws.chg _)).trans (((Chg.refl _ _).alloc _).trans (grown_chg hgrow (fun k hk => (hown'.out.lt _ hk).1)))
          case measure => simp [intOf]; omega
    · obtain rfl : k = n := by omega
      have e : joinK xs k = joined xs := by rw [← hn'.out, joinK_all]
      rw [e] at hown' ⊢
      have hown := hown'.out
      go_wp2
      obtain ⟨ao2, cap2, e2, e3, ho⟩ := own_chunks hown
      refine bodyPost_ret (v := .slice ao1 (joined xs).length ca1) (by simp [results, Try.results36, go_sem]) rfl ?_
      obtain ⟨rfl, rfl⟩ : ao1 = ao2 ∧ ca1 = cap2 := by simpa using e2
      exact ⟨ao1, ca1, rfl, ho, hg.ext (fun k hk h => by omega)⟩
end Go.Proofs.Ytjnbiacnhimkgaa
