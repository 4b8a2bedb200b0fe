/-
  slices.SortFunc at chunks in order: nothing turns. Conditions: the chunks lie in a row of the caller's own, in order, their offsets are no negative numbers.
-/
import Derived.Shelf.SlSortCmp.WholeK
import Derived.Test.YtjnbiacnhimkgaaJoin
namespace Go.Proofs.Ytjnbiacnhimkgaa
open Go.ChangeShapes Go.WideShapes Go.ChangeAt Go.RowKit
set_option linter.unusedSimpArgs false
set_option linter.unusedVariables false
def sortCk_ren : Go.Shelf.Ren := ⟨fun | 6 => 34 | 15 => 48 | 14 => 47 | 28 => 63 | 29 => 64 | 20 => 55 | 21 => 56 | 22 => 57 | 23 => 58 | 24 => 59 | 25 => 60 | 26 => 61 | 27 => 62 | 46 => 65 | 47 => 66 | 48 => 67 | 49 => 68 | 50 => 69 | 57 => 70 | n => n, fun | 22 => 24 | 24 => 53 | 25 => 57 | 3 => 3 | 39 => 75 | 0 => 0 | 53 => 88 | 55 => 90 | 4 => 4 | 46 => 81 | 45 => 80 | 50 => 85 | 5 => 5 | 9 => 9 | 66 => 91 | 70 => 95 | 76 => 97 | 77 => 98 | n => n, fun | n => n⟩
theorem sortCk : Go.Proofs.SlLaysF0.n6 Try.prog sortCk_ren := {
  mixed := by kernel_rfl
  f6 := ⟨Try.f34.name, by decide, Try.func34.trans (congrArg some (by kernel_rfl))⟩
  f14 := ⟨Try.f47.name, by decide, Try.func47.trans (congrArg some (by kernel_rfl))⟩
  f15 := Try.func48.trans (congrArg some (by kernel_rfl))
  f20 := ⟨Try.f55.name, by decide, Try.func55.trans (congrArg some (by kernel_rfl))⟩
  f21 := ⟨Try.f56.name, by decide, Try.func56.trans (congrArg some (by kernel_rfl))⟩
  f22 := ⟨Try.f57.name, by decide, Try.func57.trans (congrArg some (by kernel_rfl))⟩
  f23 := ⟨Try.f58.name, by decide, Try.func58.trans (congrArg some (by kernel_rfl))⟩
  f24 := ⟨Try.f59.name, by decide, Try.func59.trans (congrArg some (by kernel_rfl))⟩
  f25 := ⟨Try.f60.name, by decide, Try.func60.trans (congrArg some (by kernel_rfl))⟩
  f26 := ⟨Try.f61.name, by decide, Try.func61.trans (congrArg some (by kernel_rfl))⟩
  f27 := ⟨Try.f62.name, by decide, Try.func62.trans (congrArg some (by kernel_rfl))⟩
  f28 := Try.func63.trans (congrArg some (by kernel_rfl))
  f29 := Try.func64.trans (congrArg some (by kernel_rfl))
  f46 := ⟨Try.f65.name, by decide, Try.func65.trans (congrArg some (by kernel_rfl))⟩
  f47 := Try.func66.trans (congrArg some (by kernel_rfl))
  f48 := Try.func67.trans (congrArg some (by kernel_rfl))
  f49 := ⟨Try.f68.name, by decide, Try.func68.trans (congrArg some (by kernel_rfl))⟩
  f50 := ⟨Try.f69.name, by decide, Try.func69.trans (congrArg some (by kernel_rfl))⟩
  f57 := ⟨Try.f70.name, by decide, Try.func70.trans (congrArg some (by kernel_rfl))⟩
  t0 := Try.underlying0
  a0 := Try.isAgg0
  z0 := Try.sizeOf0
  v0 := Try.zeroValue0
  t3 := Try.underlying3
  a3 := Try.isAgg3
  z3 := Try.sizeOf3
  v3 := Try.zeroValue3
  t4 := Try.underlying4
  a4 := Try.isAgg4
  z4 := Try.sizeOf4
  v4 := Try.zeroValue4
  t5 := Try.underlying5
  a5 := Try.isAgg5
  z5 := Try.sizeOf5
  v5 := Try.zeroValue5
  t9 := Try.underlying9
  a9 := Try.isAgg9
  z9 := Try.sizeOf9
  v9 := Try.zeroValue9
  t22 := Try.underlying24
  a22 := Try.isAgg24
  z22 := Try.sizeOf24
  v22 := Try.zeroValue24
  t25 := Try.underlying57
  a25 := Try.isAgg57
  z25 := Try.sizeOf57
  v25 := Try.zeroValue57
  t39 := Try.underlying75
  a39 := Try.isAgg75
  z39 := Try.sizeOf75
  v39 := Try.zeroValue75
  t45 := Try.underlying80
  a45 := Try.isAgg80
  z45 := Try.sizeOf80
  v45 := Try.zeroValue80
  t46 := Try.underlying81
  a46 := Try.isAgg81
  z46 := Try.sizeOf81
  v46 := Try.zeroValue81
  t50 := Try.underlying85
  a50 := Try.isAgg85
  z50 := Try.sizeOf85
  v50 := Try.zeroValue85
  t53 := Try.underlying88
  a53 := Try.isAgg88
  z53 := Try.sizeOf88
  v53 := Try.zeroValue88
  t55 := Try.underlying90
  a55 := Try.isAgg90
  z55 := Try.sizeOf90
  v55 := Try.zeroValue90
  t66 := Try.underlying91
  a66 := Try.isAgg91
  z66 := Try.sizeOf91
  v66 := Try.zeroValue91
  t70 := Try.underlying95
  a70 := Try.isAgg95
  z70 := Try.sizeOf95
  v70 := Try.zeroValue95
  t76 := Try.underlying97
  a76 := Try.isAgg97
  z76 := Try.sizeOf97
  v76 := Try.zeroValue97
  t77 := Try.underlying98
  a77 := Try.isAgg98
  z77 := Try.sizeOf98
  v77 := Try.zeroValue98 }
/-- A chunk whose offset is no negative number. -/
structure Ckn where
  c : Ck
  lo : 0 ≤ c.1
  hi : c.1 ≤ 4611686018427387903
instance : Inhabited Ckn := ⟨⟨dk, by decide, by decide⟩⟩
def encCk (x : Ckn) : List Value := [.int .i64 x.c.1, .string x.c.2]
def cmpCk (x y : Ckn) : Int := x.c.1 - y.c.1
theorem ltCk (x y : Ckn) : ltOf cmpCk x y = decide (x.c.1 < y.c.1) := by
  unfold ltOf cmpCk
  by_cases h : x.c.1 < y.c.1
  · rw [decide_eq_true h, decide_eq_true (by omega)]
  · rw [decide_eq_false h, decide_eq_false (by omega)]
theorem cmpCk_swo : Go.Sort.SWO (ltOf cmpCk) where
  irrefl x := by rw [ltCk]; simp
  trans x y z h1 h2 := by
    rw [ltCk, decide_eq_true_eq] at *
    omega
  ntrans x y z h1 h2 := by
    rw [ltCk, decide_eq_false_iff_not] at *
    omega
theorem cmpCk_closure (x y : Ckn) (W : World) : Calls Try.prog 35 #[.agg #[.int .i64 x.c.1, .string x.c.2], .agg #[.int .i64 y.c.1, .string y.c.2]] W fun e w' => e = .returned (.int .i64 (cmpCk x y)) ∧ ∃ q os', w' = Go.Sort.grow (W.drewN q) os' := by
  have h1 := x.lo
  have h2 := x.hi
  have h3 := y.lo
  have h4 := y.hi
  have hw : IntKind.i64.wrap (x.c.1 - y.c.1) = x.c.1 - y.c.1 := IntWalk.i64_in _ (by omega)
  go_enter Try.func35, Try.ntmps35
  go_wp2
  go_ret
  exact ⟨by simp [cmpCk], 0, _, by rw [Go.Sort.alloc_eq_grow, Go.Sort.alloc_eq_grow, Go.Sort.grow_grow]; rfl⟩
/-- A permutation in order of what is strictly in order: the same. -/
theorem perm_sorted {α : Type} (lt : α → α → Bool) (hirr : ∀ x, lt x x = false) : ∀ (l1 l2 : List α), l1.Pairwise (fun a b => lt a b = true) → l2.Pairwise (fun a b => lt b a = false) → l2.Perm l1 → l2 = l1
  | [], l2, _, _, h => h.eq_nil
  | x :: xs, [], _, _, h => by have := h.length_eq; simp at this
  | x :: xs, y :: ys, h1, h2, h => by
    have hxy : y = x := by
      have hx : x ∈ y :: ys := h.mem_iff.2 (by simp)
      have hy : y ∈ x :: xs := h.mem_iff.1 (by simp)
      rcases List.mem_cons.1 hx with e | hx
      · exact e.symm
      · rcases List.mem_cons.1 hy with e | hy
        · exact e
        · have k1 := (List.pairwise_cons.1 h2).1 x hx
          have k2 := (List.pairwise_cons.1 h1).1 y hy
          rw [k1] at k2; cases k2
    subst hxy
    rw [perm_sorted lt hirr xs ys (List.pairwise_cons.1 h1).2 (List.pairwise_cons.1 h2).2 (List.perm_cons _ |>.1 h)]
theorem srt_low : ∀ {ls : List Ck} {lo : Int}, Srt lo ls → ∀ c ∈ ls, lo ≤ c.1
  | [], _, _, c, hc => by simp at hc
  | d :: ds, lo, h, c, hc => by
    rcases List.mem_cons.1 hc with rfl | hc
    · exact h.1
    · have := srt_low h.2.2 c hc
      have := h.1
      omega
theorem srt_pair : ∀ {ls : List Ck} {lo : Int}, Srt lo ls → ls.Pairwise (fun a b => a.1 < b.1)
  | [], _, _ => List.Pairwise.nil
  | d :: ds, lo, h => by
    refine List.pairwise_cons.2 ⟨fun c hc => ?_, srt_pair h.2.2⟩
    have := srt_low h.2.2 c hc
    have := h.2.1
    omega
theorem WB.tail {c : Ck} {cs : List Ck} (h : WB (c :: cs)) : WB cs := fun d hd => h d (by simp [hd])
/-- The chunks with what is known of them. -/
def ckns : (ls : List Ck) → WB ls → List Ckn
  | [], _ => []
  | c :: cs, h => ⟨c, (h c (by simp)).1, by have := h c (by simp); omega⟩ :: ckns cs h.tail
theorem ckns_map : ∀ (ls : List Ck) (h : WB ls), (ckns ls h).map (·.c) = ls
  | [], _ => rfl
  | c :: cs, h => by rw [ckns, List.map_cons, ckns_map cs h.tail]
theorem ckns_length (ls : List Ck) (h : WB ls) : (ckns ls h).length = ls.length := by
  have := congrArg List.length (ckns_map ls h)
  rwa [List.length_map] at this
theorem ckns_at (ls : List Ck) (h : WB ls) (k : Nat) (hk : k < ls.length) : (ckns ls h)[k]!.c = ls.getD k dk := by
  have h1 := congrArg (fun l => l[k]?) (ckns_map ls h)
  simp only [List.getElem?_map] at h1
  have hk2 : k < (ckns ls h).length := by rw [ckns_length]; exact hk
  rw [List.getElem?_eq_getElem hk2, List.getElem?_eq_getElem hk] at h1
  rw [getElem!_pos _ k hk2]
  simp only [Option.map_some, Option.some.injEq] at h1
  rw [h1]
  simp [List.getD, List.getElem?_eq_getElem hk]
theorem holds_ckns {w : World} {base g n cap : Nat} {ls : List Ck} (h : WB ls) (hown : w.ownsRow base 53 2 (.slice (some ⟨g, 0, none⟩) n cap) n (ckCells ls)) : Go.Sort.HoldsK encCk 2 w g 0 (ckns ls h).toArray := by
  have hn := hown.1
  rw [ckCells_length] at hn
  intro t ht
  rw [Go.Sort.size_flatK, List.size_toArray, ckns_length] at ht
  refine ⟨?_, hown.frozenAt _⟩
  rw [Go.Sort.get_flatK _ _ _ _ (by rw [List.size_toArray, ckns_length]; exact ht), Nat.zero_add, hown.cellAt t (by omega)]
  obtain ⟨k1, k2⟩ := ckCells_at ls (t / 2) (by omega)
  have e : ((ckns ls h).toArray[t / 2]!).c = ls.getD (t / 2) dk := by
    rw [← ckns_at ls h (t / 2) (by omega)]
    simp
  show _ = some (id ((encCk ((ckns ls h).toArray[t / 2]!))[t % 2]!))
  unfold encCk
  rw [e]
  rcases Nat.mod_two_eq_zero_or_one t with hm | hm
  · rw [hm]
    have : t / 2 * 2 = t := by omega
    rw [this] at k1
    rw [k1]; rfl
  · rw [hm]
    have : t / 2 * 2 + 1 = t := by omega
    rw [this] at k2
    rw [k2]; rfl
set_option maxHeartbeats 1000000 in
theorem sort_any (base g cap : Nat) (ls : List Ck) (lo : Int) (w : World) (hown : w.ownsRow base 53 2 (.slice (some ⟨g, 0, none⟩) ls.length cap) ls.length (ckCells ls)) (hwb : WB ls) (hs : Srt lo ls) (hl : ls.length ≤ 4194304) :
    Calls Try.prog 34 #[.slice (some ⟨g, 0, none⟩) ls.length cap, .func (.func 35) #[] #[]] w fun e w' => e = .returned (.tuple #[]) ∧ Ext w w' := by
  have hg : g < w.heap.size := (hown.lt g rfl).2
  have hH := holds_ckns hwb hown
  have hsz : (ckns ls hwb).toArray.size = ls.length := by rw [List.size_toArray, ckns_length]
  have eg : ∀ args w, (callFunc 35 args).run Try.prog w = .ok (.enter 35 args) w := enters_of Try.func35 (by kernel_rfl) rfl
  have hcon := AnyQ.slices_SortFunc sortCk 2 Try.isAgg53 Try.sizeOf53 encCk (fun _ => rfl) (fun x v hv => by simp [encCk] at hv; rcases hv with rfl | rfl <;> rfl) cmpCk cmpCk_swo 35 #[] g 0 cap (ckns ls hwb).toArray w eg (fun _ _ _ _ x y => cmpCk_closure x y _) hH hg (by rw [hsz]; omega)
  rw [hsz] at hcon
  refine hcon.mono ?_
  rintro e w' ⟨rfl, d', n, os, hp, hso, rfl⟩
  refine ⟨rfl, ?_⟩
  have hd : d' = (ckns ls hwb).toArray := by
    have h1 : (ckns ls hwb).Pairwise (fun a b => ltOf cmpCk a b = true) := by
      have h2 := srt_pair hs
      rw [← ckns_map ls hwb, List.pairwise_map] at h2
      exact h2.imp fun {a b} h => by rw [ltCk]; exact decide_eq_true h
    have hps := hp.1
    have h3 : d'.toList.Pairwise (fun a b => ltOf cmpCk b a = false) := by
      rw [List.pairwise_iff_getElem]
      intro i j hi hj hij
      have h4 := hso i j (Nat.zero_le _) hij (by rw [← hsz, ← hps]; simpa using hj)
      rw [getElem!_pos d' i (by simpa using hi), getElem!_pos d' j (by simpa using hj)] at h4
      simpa using h4
    have h5 := hp.2.2
    rw [← hsz] at h5
    have h6 : d'.extract 0 (ckns ls hwb).toArray.size = d' := by rw [← hps]; exact Array.extract_size
    rw [h6, Array.extract_size] at h5
    have h7 := perm_sorted (ltOf cmpCk) cmpCk_swo.irrefl _ _ h1 h3 (by simpa using h5)
    exact Array.toList_inj.1 (by rw [h7])
  subst hd
  unfold sortWorldK
  rw [Go.Sort.putRowK_self _ _ _ _ _ _ (Go.Sort.holdsK_ahead _ _ _ _ _ _ _ hH)]
  exact ⟨rfl, rfl, rfl, by simp [Go.Sort.grow, Go.Sort.ahead], fun k hk => by
    simp only [Go.Sort.grow, Go.Sort.ahead]
    rw [Array.getElem?_append_left hk]⟩
end Go.Proofs.Ytjnbiacnhimkgaa
