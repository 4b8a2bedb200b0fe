/-
  Part of the proof: SndEq.
-/
import Derived.Test.YtjhgcbchdnoleaaPRing2qS
import Derived.Test.YtjhgcbchdnoleaaPRingEqqS
import Derived.Test.YtjhgcbchdnoleaaPSndEqqPS
namespace Go.Proofs.Ytjhgcbchdnoleaa
section
open Go.ChangeShapes Go.WideShapes Go.ChangeAt Go.RowKit
set_option linter.unusedSimpArgs false
set_option linter.unusedVariables false
set_option maxHeartbeats 4000000 in
theorem EqualSenders_impl (st z b e fi fk se co st2 z2 b2 e2 fi2 fk2 se2 co2 : Int) (a1 a2 a3 a4 : Option Addr) (ca1 ca2 ca3 ca4 : Nat) (v1 v2 v3 v4 : Option Addr) (cv1 cv2 cv3 cv4 : Nat) (xs : List Int) (ps fs ks : List Rg) (ys : List Int) (qs gs js : List Rg) (w : World) (hx : ReadSnd w ⟨a1, a2, a3, a4⟩ ⟨xs, ps, fs, ks⟩) (hy : ReadSnd w ⟨v1, v2, v3, v4⟩ ⟨ys, qs, gs, js⟩) (hl : xs.length ≤ 1048576 ∧ ps.length ≤ 1048576 ∧ fs.length ≤ 1048576 ∧ ks.length ≤ 1048576) :
    Calls Try.prog 33 #[.agg #[.int .i64 st, .int .i64 z, .int .i64 b, .int .i64 e, .slice a1 xs.length ca1, .slice a2 ps.length ca2, .slice a3 fs.length ca3, .slice a4 ks.length ca4, .int .i64 fi, .int .i64 fk, .int .i64 se, .int .i64 co], .agg #[.int .i64 st2, .int .i64 z2, .int .i64 b2, .int .i64 e2, .slice v1 ys.length cv1, .slice v2 qs.length cv2, .slice v3 gs.length cv3, .slice v4 js.length cv4, .int .i64 fi2, .int .i64 fk2, .int .i64 se2, .int .i64 co2]] w fun en w' => en = .returned (.bool (sndEq st z b e fi fk se co st2 z2 b2 e2 fi2 fk2 se2 co2 ⟨xs, ps, fs, ks⟩ ⟨ys, qs, gs, js⟩)) ∧ Ext w w' := by
  by_cases hs : st = st2
  · -- equal
    have hse : (st == st2) = true := by simp [hs]
    have hsn : (st != st2) = false := by simp [hs]
    have hsH := hide hs
    clear hs
    rcases Bool.eq_false_or_eq_true (ringEq z b e z2 b2 e2 xs ys) with hR | hR
    · -- yes
      rcases Bool.eq_false_or_eq_true (decide (ps = qs)) with hE2 | hE2
      · -- yes
        rcases Bool.eq_false_or_eq_true (decide (fs = gs)) with hE3 | hE3
        · -- yes
          rcases Bool.eq_false_or_eq_true (decide (ks = js)) with hE4 | hE4
          · -- yes
            by_cases hf : fi = fi2
            · -- equal
              have hfe : (fi == fi2) = true := by simp [hf]
              have hfn : (fi != fi2) = false := by simp [hf]
              have hfH := hide hf
              clear hf
              by_cases hk : fk = fk2
              · -- equal
                have hke : (fk == fk2) = true := by simp [hk]
                have hkn : (fk != fk2) = false := by simp [hk]
                have hkH := hide hk
                clear hk
                by_cases he : se = se2
                · -- equal
                  have hee : (se == se2) = true := by simp [he]
                  have hen : (se != se2) = false := by simp [he]
                  have heH := hide he
                  clear he
                  by_cases hc : co = co2
                  · -- equal
                    have hce : (co == co2) = true := by simp [hc]
                    have hcn : (co != co2) = false := by simp [hc]
                    have hcH := hide hc
                    clear hc
                    obtain ⟨l1, l2, l3, l4⟩ := hl
                    obtain ⟨hx1, hx2, hx3, hx4⟩ := hx
                    obtain ⟨hy1, hy2, hy3, hy4⟩ := hy
                    replace hx1 := hide hx1
                    replace hy1 := hide hy1
                    replace hx2 := hide hx2
                    replace hy2 := hide hy2
                    replace hx3 := hide hx3
                    replace hy3 := hide hy3
                    replace hx4 := hide hx4
                    replace hy4 := hide hy4
                    go_enter Try.func33, Try.ntmps33
                    go_wp2_with fail
                    refine (EqualRings_impl z b e z2 b2 e2 a1 v1 xs.length ys.length ca1 cv1 xs ys _ (hx1.out.ext Ext.go) (hy1.out.ext Ext.go) rfl rfl (by omega)).mono ?_
                    rintro en w1 ⟨rfl, hw1⟩
                    have xw1 : Ext w w1 := Ext.go
                    have kw1_0 := hw1.more (k := w.heap.size) xpf
                    obtain ⟨cw1_0, fw1_0⟩ := hw1.row (k := w.heap.size) xpf
                    have kw1_1 := hw1.more (k := w.heap.size + 1) xpf
                    obtain ⟨cw1_1, fw1_1⟩ := hw1.row (k := w.heap.size + 1) xpf
                    rw [hR]
                    go_wp2_with fail
                    refine (EqualRanges_impl a2 v2 ps.length qs.length ca2 cv2 ps qs _ (hx2.out.ext Ext.go) (hy2.out.ext Ext.go) rfl rfl (by omega)).mono ?_
                    rintro en w2 ⟨rfl, hw2⟩
                    have xw2 : Ext w w2 := Ext.go
                    have kw2_0 := hw2.more (k := w.heap.size) xpf
                    obtain ⟨cw2_0, fw2_0⟩ := hw2.row (k := w.heap.size) xpf
                    have kw2_1 := hw2.more (k := w.heap.size + 1) xpf
                    obtain ⟨cw2_1, fw2_1⟩ := hw2.row (k := w.heap.size + 1) xpf
                    rw [hE2]
                    go_wp2_with fail
                    refine (EqualRanges_impl a3 v3 fs.length gs.length ca3 cv3 fs gs _ (hx3.out.ext Ext.go) (hy3.out.ext Ext.go) rfl rfl (by omega)).mono ?_
                    rintro en w3 ⟨rfl, hw3⟩
                    have xw3 : Ext w w3 := Ext.go
                    have kw3_0 := hw3.more (k := w.heap.size) xpf
                    obtain ⟨cw3_0, fw3_0⟩ := hw3.row (k := w.heap.size) xpf
                    have kw3_1 := hw3.more (k := w.heap.size + 1) xpf
                    obtain ⟨cw3_1, fw3_1⟩ := hw3.row (k := w.heap.size + 1) xpf
                    rw [hE3]
                    go_wp2_with fail
                    refine (EqualRanges_impl a4 v4 ks.length js.length ca4 cv4 ks js _ (hx4.out.ext Ext.go) (hy4.out.ext Ext.go) rfl rfl (by omega)).mono ?_
                    rintro en w4 ⟨rfl, hw4⟩
                    have xw4 : Ext w w4 := Ext.go
                    have kw4_0 := hw4.more (k := w.heap.size) xpf
                    obtain ⟨cw4_0, fw4_0⟩ := hw4.row (k := w.heap.size) xpf
                    have kw4_1 := hw4.more (k := w.heap.size + 1) xpf
                    obtain ⟨cw4_1, fw4_1⟩ := hw4.row (k := w.heap.size + 1) xpf
                    rw [hE4]
                    go_wp2
                    go_ret
                    exact ⟨by simp [sndEq, *], Ext.go⟩
                  · -- other
                    have hce : (co == co2) = false := by simp [hc]
                    have hcn : (co != co2) = true := by simp [hc]
                    have hcH := hide hc
                    clear hc
                    obtain ⟨l1, l2, l3, l4⟩ := hl
                    obtain ⟨hx1, hx2, hx3, hx4⟩ := hx
                    obtain ⟨hy1, hy2, hy3, hy4⟩ := hy
                    replace hx1 := hide hx1
                    replace hy1 := hide hy1
                    replace hx2 := hide hx2
                    replace hy2 := hide hy2
                    replace hx3 := hide hx3
                    replace hy3 := hide hy3
                    replace hx4 := hide hx4
                    replace hy4 := hide hy4
                    go_enter Try.func33, Try.ntmps33
                    go_wp2_with fail
                    refine (EqualRings_impl z b e z2 b2 e2 a1 v1 xs.length ys.length ca1 cv1 xs ys _ (hx1.out.ext Ext.go) (hy1.out.ext Ext.go) rfl rfl (by omega)).mono ?_
                    rintro en w1 ⟨rfl, hw1⟩
                    have xw1 : Ext w w1 := Ext.go
                    have kw1_0 := hw1.more (k := w.heap.size) xpf
                    obtain ⟨cw1_0, fw1_0⟩ := hw1.row (k := w.heap.size) xpf
                    have kw1_1 := hw1.more (k := w.heap.size + 1) xpf
                    obtain ⟨cw1_1, fw1_1⟩ := hw1.row (k := w.heap.size + 1) xpf
                    rw [hR]
                    go_wp2_with fail
                    refine (EqualRanges_impl a2 v2 ps.length qs.length ca2 cv2 ps qs _ (hx2.out.ext Ext.go) (hy2.out.ext Ext.go) rfl rfl (by omega)).mono ?_
                    rintro en w2 ⟨rfl, hw2⟩
                    have xw2 : Ext w w2 := Ext.go
                    have kw2_0 := hw2.more (k := w.heap.size) xpf
                    obtain ⟨cw2_0, fw2_0⟩ := hw2.row (k := w.heap.size) xpf
                    have kw2_1 := hw2.more (k := w.heap.size + 1) xpf
                    obtain ⟨cw2_1, fw2_1⟩ := hw2.row (k := w.heap.size + 1) xpf
                    rw [hE2]
                    go_wp2_with fail
                    refine (EqualRanges_impl a3 v3 fs.length gs.length ca3 cv3 fs gs _ (hx3.out.ext Ext.go) (hy3.out.ext Ext.go) rfl rfl (by omega)).mono ?_
                    rintro en w3 ⟨rfl, hw3⟩
                    have xw3 : Ext w w3 := Ext.go
                    have kw3_0 := hw3.more (k := w.heap.size) xpf
                    obtain ⟨cw3_0, fw3_0⟩ := hw3.row (k := w.heap.size) xpf
                    have kw3_1 := hw3.more (k := w.heap.size + 1) xpf
                    obtain ⟨cw3_1, fw3_1⟩ := hw3.row (k := w.heap.size + 1) xpf
                    rw [hE3]
                    go_wp2_with fail
                    refine (EqualRanges_impl a4 v4 ks.length js.length ca4 cv4 ks js _ (hx4.out.ext Ext.go) (hy4.out.ext Ext.go) rfl rfl (by omega)).mono ?_
                    rintro en w4 ⟨rfl, hw4⟩
                    have xw4 : Ext w w4 := Ext.go
                    have kw4_0 := hw4.more (k := w.heap.size) xpf
                    obtain ⟨cw4_0, fw4_0⟩ := hw4.row (k := w.heap.size) xpf
                    have kw4_1 := hw4.more (k := w.heap.size + 1) xpf
                    obtain ⟨cw4_1, fw4_1⟩ := hw4.row (k := w.heap.size + 1) xpf
                    rw [hE4]
                    go_wp2
                    go_ret
                    exact ⟨by simp [sndEq, *], Ext.go⟩
                · -- other
                  have hee : (se == se2) = false := by simp [he]
                  have hen : (se != se2) = true := by simp [he]
                  have heH := hide he
                  clear he
                  obtain ⟨l1, l2, l3, l4⟩ := hl
                  obtain ⟨hx1, hx2, hx3, hx4⟩ := hx
                  obtain ⟨hy1, hy2, hy3, hy4⟩ := hy
                  replace hx1 := hide hx1
                  replace hy1 := hide hy1
                  replace hx2 := hide hx2
                  replace hy2 := hide hy2
                  replace hx3 := hide hx3
                  replace hy3 := hide hy3
                  replace hx4 := hide hx4
                  replace hy4 := hide hy4
                  go_enter Try.func33, Try.ntmps33
                  go_wp2_with fail
                  refine (EqualRings_impl z b e z2 b2 e2 a1 v1 xs.length ys.length ca1 cv1 xs ys _ (hx1.out.ext Ext.go) (hy1.out.ext Ext.go) rfl rfl (by omega)).mono ?_
                  rintro en w1 ⟨rfl, hw1⟩
                  have xw1 : Ext w w1 := Ext.go
                  have kw1_0 := hw1.more (k := w.heap.size) xpf
                  obtain ⟨cw1_0, fw1_0⟩ := hw1.row (k := w.heap.size) xpf
                  have kw1_1 := hw1.more (k := w.heap.size + 1) xpf
                  obtain ⟨cw1_1, fw1_1⟩ := hw1.row (k := w.heap.size + 1) xpf
                  rw [hR]
                  go_wp2_with fail
                  refine (EqualRanges_impl a2 v2 ps.length qs.length ca2 cv2 ps qs _ (hx2.out.ext Ext.go) (hy2.out.ext Ext.go) rfl rfl (by omega)).mono ?_
                  rintro en w2 ⟨rfl, hw2⟩
                  have xw2 : Ext w w2 := Ext.go
                  have kw2_0 := hw2.more (k := w.heap.size) xpf
                  obtain ⟨cw2_0, fw2_0⟩ := hw2.row (k := w.heap.size) xpf
                  have kw2_1 := hw2.more (k := w.heap.size + 1) xpf
                  obtain ⟨cw2_1, fw2_1⟩ := hw2.row (k := w.heap.size + 1) xpf
                  rw [hE2]
                  go_wp2_with fail
                  refine (EqualRanges_impl a3 v3 fs.length gs.length ca3 cv3 fs gs _ (hx3.out.ext Ext.go) (hy3.out.ext Ext.go) rfl rfl (by omega)).mono ?_
                  rintro en w3 ⟨rfl, hw3⟩
                  have xw3 : Ext w w3 := Ext.go
                  have kw3_0 := hw3.more (k := w.heap.size) xpf
                  obtain ⟨cw3_0, fw3_0⟩ := hw3.row (k := w.heap.size) xpf
                  have kw3_1 := hw3.more (k := w.heap.size + 1) xpf
                  obtain ⟨cw3_1, fw3_1⟩ := hw3.row (k := w.heap.size + 1) xpf
                  rw [hE3]
                  go_wp2_with fail
                  refine (EqualRanges_impl a4 v4 ks.length js.length ca4 cv4 ks js _ (hx4.out.ext Ext.go) (hy4.out.ext Ext.go) rfl rfl (by omega)).mono ?_
                  rintro en w4 ⟨rfl, hw4⟩
                  have xw4 : Ext w w4 := Ext.go
                  have kw4_0 := hw4.more (k := w.heap.size) xpf
                  obtain ⟨cw4_0, fw4_0⟩ := hw4.row (k := w.heap.size) xpf
                  have kw4_1 := hw4.more (k := w.heap.size + 1) xpf
                  obtain ⟨cw4_1, fw4_1⟩ := hw4.row (k := w.heap.size + 1) xpf
                  rw [hE4]
                  go_wp2
                  go_ret
                  exact ⟨by simp [sndEq, *], Ext.go⟩
              · -- other
                have hke : (fk == fk2) = false := by simp [hk]
                have hkn : (fk != fk2) = true := by simp [hk]
                have hkH := hide hk
                clear hk
                obtain ⟨l1, l2, l3, l4⟩ := hl
                obtain ⟨hx1, hx2, hx3, hx4⟩ := hx
                obtain ⟨hy1, hy2, hy3, hy4⟩ := hy
                replace hx1 := hide hx1
                replace hy1 := hide hy1
                replace hx2 := hide hx2
                replace hy2 := hide hy2
                replace hx3 := hide hx3
                replace hy3 := hide hy3
                replace hx4 := hide hx4
                replace hy4 := hide hy4
                go_enter Try.func33, Try.ntmps33
                go_wp2_with fail
                refine (EqualRings_impl z b e z2 b2 e2 a1 v1 xs.length ys.length ca1 cv1 xs ys _ (hx1.out.ext Ext.go) (hy1.out.ext Ext.go) rfl rfl (by omega)).mono ?_
                rintro en w1 ⟨rfl, hw1⟩
                have xw1 : Ext w w1 := Ext.go
                have kw1_0 := hw1.more (k := w.heap.size) xpf
                obtain ⟨cw1_0, fw1_0⟩ := hw1.row (k := w.heap.size) xpf
                have kw1_1 := hw1.more (k := w.heap.size + 1) xpf
                obtain ⟨cw1_1, fw1_1⟩ := hw1.row (k := w.heap.size + 1) xpf
                rw [hR]
                go_wp2_with fail
                refine (EqualRanges_impl a2 v2 ps.length qs.length ca2 cv2 ps qs _ (hx2.out.ext Ext.go) (hy2.out.ext Ext.go) rfl rfl (by omega)).mono ?_
                rintro en w2 ⟨rfl, hw2⟩
                have xw2 : Ext w w2 := Ext.go
                have kw2_0 := hw2.more (k := w.heap.size) xpf
                obtain ⟨cw2_0, fw2_0⟩ := hw2.row (k := w.heap.size) xpf
                have kw2_1 := hw2.more (k := w.heap.size + 1) xpf
                obtain ⟨cw2_1, fw2_1⟩ := hw2.row (k := w.heap.size + 1) xpf
                rw [hE2]
                go_wp2_with fail
                refine (EqualRanges_impl a3 v3 fs.length gs.length ca3 cv3 fs gs _ (hx3.out.ext Ext.go) (hy3.out.ext Ext.go) rfl rfl (by omega)).mono ?_
                rintro en w3 ⟨rfl, hw3⟩
                have xw3 : Ext w w3 := Ext.go
                have kw3_0 := hw3.more (k := w.heap.size) xpf
                obtain ⟨cw3_0, fw3_0⟩ := hw3.row (k := w.heap.size) xpf
                have kw3_1 := hw3.more (k := w.heap.size + 1) xpf
                obtain ⟨cw3_1, fw3_1⟩ := hw3.row (k := w.heap.size + 1) xpf
                rw [hE3]
                go_wp2_with fail
                refine (EqualRanges_impl a4 v4 ks.length js.length ca4 cv4 ks js _ (hx4.out.ext Ext.go) (hy4.out.ext Ext.go) rfl rfl (by omega)).mono ?_
                rintro en w4 ⟨rfl, hw4⟩
                have xw4 : Ext w w4 := Ext.go
                have kw4_0 := hw4.more (k := w.heap.size) xpf
                obtain ⟨cw4_0, fw4_0⟩ := hw4.row (k := w.heap.size) xpf
                have kw4_1 := hw4.more (k := w.heap.size + 1) xpf
                obtain ⟨cw4_1, fw4_1⟩ := hw4.row (k := w.heap.size + 1) xpf
                rw [hE4]
                go_wp2
                go_ret
                exact ⟨by simp [sndEq, *], Ext.go⟩
            · -- other
              have hfe : (fi == fi2) = false := by simp [hf]
              have hfn : (fi != fi2) = true := by simp [hf]
              have hfH := hide hf
              clear hf
              obtain ⟨l1, l2, l3, l4⟩ := hl
              obtain ⟨hx1, hx2, hx3, hx4⟩ := hx
              obtain ⟨hy1, hy2, hy3, hy4⟩ := hy
              replace hx1 := hide hx1
              replace hy1 := hide hy1
              replace hx2 := hide hx2
              replace hy2 := hide hy2
              replace hx3 := hide hx3
              replace hy3 := hide hy3
              replace hx4 := hide hx4
              replace hy4 := hide hy4
              go_enter Try.func33, Try.ntmps33
              go_wp2_with fail
              refine (EqualRings_impl z b e z2 b2 e2 a1 v1 xs.length ys.length ca1 cv1 xs ys _ (hx1.out.ext Ext.go) (hy1.out.ext Ext.go) rfl rfl (by omega)).mono ?_
              rintro en w1 ⟨rfl, hw1⟩
              have xw1 : Ext w w1 := Ext.go
              have kw1_0 := hw1.more (k := w.heap.size) xpf
              obtain ⟨cw1_0, fw1_0⟩ := hw1.row (k := w.heap.size) xpf
              have kw1_1 := hw1.more (k := w.heap.size + 1) xpf
              obtain ⟨cw1_1, fw1_1⟩ := hw1.row (k := w.heap.size + 1) xpf
              rw [hR]
              go_wp2_with fail
              refine (EqualRanges_impl a2 v2 ps.length qs.length ca2 cv2 ps qs _ (hx2.out.ext Ext.go) (hy2.out.ext Ext.go) rfl rfl (by omega)).mono ?_
              rintro en w2 ⟨rfl, hw2⟩
              have xw2 : Ext w w2 := Ext.go
              have kw2_0 := hw2.more (k := w.heap.size) xpf
              obtain ⟨cw2_0, fw2_0⟩ := hw2.row (k := w.heap.size) xpf
              have kw2_1 := hw2.more (k := w.heap.size + 1) xpf
              obtain ⟨cw2_1, fw2_1⟩ := hw2.row (k := w.heap.size + 1) xpf
              rw [hE2]
              go_wp2_with fail
              refine (EqualRanges_impl a3 v3 fs.length gs.length ca3 cv3 fs gs _ (hx3.out.ext Ext.go) (hy3.out.ext Ext.go) rfl rfl (by omega)).mono ?_
              rintro en w3 ⟨rfl, hw3⟩
              have xw3 : Ext w w3 := Ext.go
              have kw3_0 := hw3.more (k := w.heap.size) xpf
              obtain ⟨cw3_0, fw3_0⟩ := hw3.row (k := w.heap.size) xpf
              have kw3_1 := hw3.more (k := w.heap.size + 1) xpf
              obtain ⟨cw3_1, fw3_1⟩ := hw3.row (k := w.heap.size + 1) xpf
              rw [hE3]
              go_wp2_with fail
              refine (EqualRanges_impl a4 v4 ks.length js.length ca4 cv4 ks js _ (hx4.out.ext Ext.go) (hy4.out.ext Ext.go) rfl rfl (by omega)).mono ?_
              rintro en w4 ⟨rfl, hw4⟩
              have xw4 : Ext w w4 := Ext.go
              have kw4_0 := hw4.more (k := w.heap.size) xpf
              obtain ⟨cw4_0, fw4_0⟩ := hw4.row (k := w.heap.size) xpf
              have kw4_1 := hw4.more (k := w.heap.size + 1) xpf
              obtain ⟨cw4_1, fw4_1⟩ := hw4.row (k := w.heap.size + 1) xpf
              rw [hE4]
              go_wp2
              go_ret
              exact ⟨by simp [sndEq, *], Ext.go⟩
          · -- no
            obtain ⟨l1, l2, l3, l4⟩ := hl
            obtain ⟨hx1, hx2, hx3, hx4⟩ := hx
            obtain ⟨hy1, hy2, hy3, hy4⟩ := hy
            replace hx1 := hide hx1
            replace hy1 := hide hy1
            replace hx2 := hide hx2
            replace hy2 := hide hy2
            replace hx3 := hide hx3
            replace hy3 := hide hy3
            replace hx4 := hide hx4
            replace hy4 := hide hy4
            go_enter Try.func33, Try.ntmps33
            go_wp2_with fail
            refine (EqualRings_impl z b e z2 b2 e2 a1 v1 xs.length ys.length ca1 cv1 xs ys _ (hx1.out.ext Ext.go) (hy1.out.ext Ext.go) rfl rfl (by omega)).mono ?_
            rintro en w1 ⟨rfl, hw1⟩
            have xw1 : Ext w w1 := Ext.go
            have kw1_0 := hw1.more (k := w.heap.size) xpf
            obtain ⟨cw1_0, fw1_0⟩ := hw1.row (k := w.heap.size) xpf
            have kw1_1 := hw1.more (k := w.heap.size + 1) xpf
            obtain ⟨cw1_1, fw1_1⟩ := hw1.row (k := w.heap.size + 1) xpf
            rw [hR]
            go_wp2_with fail
            refine (EqualRanges_impl a2 v2 ps.length qs.length ca2 cv2 ps qs _ (hx2.out.ext Ext.go) (hy2.out.ext Ext.go) rfl rfl (by omega)).mono ?_
            rintro en w2 ⟨rfl, hw2⟩
            have xw2 : Ext w w2 := Ext.go
            have kw2_0 := hw2.more (k := w.heap.size) xpf
            obtain ⟨cw2_0, fw2_0⟩ := hw2.row (k := w.heap.size) xpf
            have kw2_1 := hw2.more (k := w.heap.size + 1) xpf
            obtain ⟨cw2_1, fw2_1⟩ := hw2.row (k := w.heap.size + 1) xpf
            rw [hE2]
            go_wp2_with fail
            refine (EqualRanges_impl a3 v3 fs.length gs.length ca3 cv3 fs gs _ (hx3.out.ext Ext.go) (hy3.out.ext Ext.go) rfl rfl (by omega)).mono ?_
            rintro en w3 ⟨rfl, hw3⟩
            have xw3 : Ext w w3 := Ext.go
            have kw3_0 := hw3.more (k := w.heap.size) xpf
            obtain ⟨cw3_0, fw3_0⟩ := hw3.row (k := w.heap.size) xpf
            have kw3_1 := hw3.more (k := w.heap.size + 1) xpf
            obtain ⟨cw3_1, fw3_1⟩ := hw3.row (k := w.heap.size + 1) xpf
            rw [hE3]
            go_wp2_with fail
            refine (EqualRanges_impl a4 v4 ks.length js.length ca4 cv4 ks js _ (hx4.out.ext Ext.go) (hy4.out.ext Ext.go) rfl rfl (by omega)).mono ?_
            rintro en w4 ⟨rfl, hw4⟩
            have xw4 : Ext w w4 := Ext.go
            have kw4_0 := hw4.more (k := w.heap.size) xpf
            obtain ⟨cw4_0, fw4_0⟩ := hw4.row (k := w.heap.size) xpf
            have kw4_1 := hw4.more (k := w.heap.size + 1) xpf
            obtain ⟨cw4_1, fw4_1⟩ := hw4.row (k := w.heap.size + 1) xpf
            rw [hE4]
            go_wp2
            go_ret
            exact ⟨by simp [sndEq, *], Ext.go⟩
        · -- no
          obtain ⟨l1, l2, l3, l4⟩ := hl
          obtain ⟨hx1, hx2, hx3, hx4⟩ := hx
          obtain ⟨hy1, hy2, hy3, hy4⟩ := hy
          replace hx1 := hide hx1
          replace hy1 := hide hy1
          replace hx2 := hide hx2
          replace hy2 := hide hy2
          replace hx3 := hide hx3
          replace hy3 := hide hy3
          replace hx4 := hide hx4
          replace hy4 := hide hy4
          go_enter Try.func33, Try.ntmps33
          go_wp2_with fail
          refine (EqualRings_impl z b e z2 b2 e2 a1 v1 xs.length ys.length ca1 cv1 xs ys _ (hx1.out.ext Ext.go) (hy1.out.ext Ext.go) rfl rfl (by omega)).mono ?_
          rintro en w1 ⟨rfl, hw1⟩
          have xw1 : Ext w w1 := Ext.go
          have kw1_0 := hw1.more (k := w.heap.size) xpf
          obtain ⟨cw1_0, fw1_0⟩ := hw1.row (k := w.heap.size) xpf
          have kw1_1 := hw1.more (k := w.heap.size + 1) xpf
          obtain ⟨cw1_1, fw1_1⟩ := hw1.row (k := w.heap.size + 1) xpf
          rw [hR]
          go_wp2_with fail
          refine (EqualRanges_impl a2 v2 ps.length qs.length ca2 cv2 ps qs _ (hx2.out.ext Ext.go) (hy2.out.ext Ext.go) rfl rfl (by omega)).mono ?_
          rintro en w2 ⟨rfl, hw2⟩
          have xw2 : Ext w w2 := Ext.go
          have kw2_0 := hw2.more (k := w.heap.size) xpf
          obtain ⟨cw2_0, fw2_0⟩ := hw2.row (k := w.heap.size) xpf
          have kw2_1 := hw2.more (k := w.heap.size + 1) xpf
          obtain ⟨cw2_1, fw2_1⟩ := hw2.row (k := w.heap.size + 1) xpf
          rw [hE2]
          go_wp2_with fail
          refine (EqualRanges_impl a3 v3 fs.length gs.length ca3 cv3 fs gs _ (hx3.out.ext Ext.go) (hy3.out.ext Ext.go) rfl rfl (by omega)).mono ?_
          rintro en w3 ⟨rfl, hw3⟩
          have xw3 : Ext w w3 := Ext.go
          have kw3_0 := hw3.more (k := w.heap.size) xpf
          obtain ⟨cw3_0, fw3_0⟩ := hw3.row (k := w.heap.size) xpf
          have kw3_1 := hw3.more (k := w.heap.size + 1) xpf
          obtain ⟨cw3_1, fw3_1⟩ := hw3.row (k := w.heap.size + 1) xpf
          rw [hE3]
          go_wp2
          go_ret
          exact ⟨by simp [sndEq, *], Ext.go⟩
      · -- no
        obtain ⟨l1, l2, l3, l4⟩ := hl
        obtain ⟨hx1, hx2, hx3, hx4⟩ := hx
        obtain ⟨hy1, hy2, hy3, hy4⟩ := hy
        replace hx1 := hide hx1
        replace hy1 := hide hy1
        replace hx2 := hide hx2
        replace hy2 := hide hy2
        replace hx3 := hide hx3
        replace hy3 := hide hy3
        replace hx4 := hide hx4
        replace hy4 := hide hy4
        go_enter Try.func33, Try.ntmps33
        go_wp2_with fail
        refine (EqualRings_impl z b e z2 b2 e2 a1 v1 xs.length ys.length ca1 cv1 xs ys _ (hx1.out.ext Ext.go) (hy1.out.ext Ext.go) rfl rfl (by omega)).mono ?_
        rintro en w1 ⟨rfl, hw1⟩
        have xw1 : Ext w w1 := Ext.go
        have kw1_0 := hw1.more (k := w.heap.size) xpf
        obtain ⟨cw1_0, fw1_0⟩ := hw1.row (k := w.heap.size) xpf
        have kw1_1 := hw1.more (k := w.heap.size + 1) xpf
        obtain ⟨cw1_1, fw1_1⟩ := hw1.row (k := w.heap.size + 1) xpf
        rw [hR]
        go_wp2_with fail
        refine (EqualRanges_impl a2 v2 ps.length qs.length ca2 cv2 ps qs _ (hx2.out.ext Ext.go) (hy2.out.ext Ext.go) rfl rfl (by omega)).mono ?_
        rintro en w2 ⟨rfl, hw2⟩
        have xw2 : Ext w w2 := Ext.go
        have kw2_0 := hw2.more (k := w.heap.size) xpf
        obtain ⟨cw2_0, fw2_0⟩ := hw2.row (k := w.heap.size) xpf
        have kw2_1 := hw2.more (k := w.heap.size + 1) xpf
        obtain ⟨cw2_1, fw2_1⟩ := hw2.row (k := w.heap.size + 1) xpf
        rw [hE2]
        go_wp2
        go_ret
        exact ⟨by simp [sndEq, *], Ext.go⟩
    · -- no
      obtain ⟨l1, l2, l3, l4⟩ := hl
      obtain ⟨hx1, hx2, hx3, hx4⟩ := hx
      obtain ⟨hy1, hy2, hy3, hy4⟩ := hy
      replace hx1 := hide hx1
      replace hy1 := hide hy1
      replace hx2 := hide hx2
      replace hy2 := hide hy2
      replace hx3 := hide hx3
      replace hy3 := hide hy3
      replace hx4 := hide hx4
      replace hy4 := hide hy4
      go_enter Try.func33, Try.ntmps33
      go_wp2_with fail
      refine (EqualRings_impl z b e z2 b2 e2 a1 v1 xs.length ys.length ca1 cv1 xs ys _ (hx1.out.ext Ext.go) (hy1.out.ext Ext.go) rfl rfl (by omega)).mono ?_
      rintro en w1 ⟨rfl, hw1⟩
      have xw1 : Ext w w1 := Ext.go
      have kw1_0 := hw1.more (k := w.heap.size) xpf
      obtain ⟨cw1_0, fw1_0⟩ := hw1.row (k := w.heap.size) xpf
      have kw1_1 := hw1.more (k := w.heap.size + 1) xpf
      obtain ⟨cw1_1, fw1_1⟩ := hw1.row (k := w.heap.size + 1) xpf
      rw [hR]
      go_wp2
      go_ret
      exact ⟨by simp [sndEq, *], Ext.go⟩
  · -- other
    have hse : (st == st2) = false := by simp [hs]
    have hsn : (st != st2) = true := by simp [hs]
    have hsH := hide hs
    clear hs
    obtain ⟨l1, l2, l3, l4⟩ := hl
    clear hx hy
    go_enter Try.func33, Try.ntmps33
    go_wp2
    go_ret
    exact ⟨by simp [sndEq, *], Ext.go⟩
end
end Go.Proofs.Ytjhgcbchdnoleaa
