/-
  Plain facts on chunks: what a list of chunks holds at each place; a list in order is told by it; gaps filled, neighbours joined. Conditions: each lemma bears its own.
-/
import Derived.Test.YtjnbiacnhimkgaaIsBuf
namespace Go.Proofs.Ytjnbiacnhimkgaa
/-- The byte at a place. -/
def atC : List Ck → Int → Option UInt8
  | [], _ => none
  | c :: cs, n => if c.1 ≤ n ∧ n < c.1 + c.2.size then c.2.data[(n - c.1).toNat]? else atC cs n
/-- In order, none empty, none touching the next. -/
def Canon : Int → List Ck → Prop
  | _, [] => True
  | lo, c :: cs => lo ≤ c.1 ∧ 0 < c.2.size ∧ Canon (c.1 + c.2.size + 1) cs
/-- In order, none empty. -/
def Srt : Int → List Ck → Prop
  | _, [] => True
  | lo, c :: cs => lo ≤ c.1 ∧ 0 < c.2.size ∧ Srt (c.1 + c.2.size) cs
theorem Canon.mono {lo lo' : Int} : ∀ {cs : List Ck}, Canon lo cs → lo' ≤ lo → Canon lo' cs
  | [], _, _ => trivial
  | _ :: _, h, hl => ⟨Int.le_trans hl h.1, h.2⟩
theorem Srt.mono {lo lo' : Int} : ∀ {cs : List Ck}, Srt lo cs → lo' ≤ lo → Srt lo' cs
  | [], _, _ => trivial
  | _ :: _, h, hl => ⟨Int.le_trans hl h.1, h.2⟩
theorem Canon.srt : ∀ {cs : List Ck} {lo : Int}, Canon lo cs → Srt lo cs
  | [], _, _ => trivial
  | _ :: _, _, h => ⟨h.1, h.2.1, (Canon.srt h.2.2).mono (by omega)⟩
theorem atC_low : ∀ {cs : List Ck} {lo n : Int}, Srt lo cs → n < lo → atC cs n = none
  | [], _, _, _, _ => rfl
  | c :: cs, lo, n, h, hn => by
    have h1 := h.1
    rw [atC, if_neg (by omega)]
    exact atC_low h.2.2 (by omega)
theorem atC_head {c : Ck} {cs : List Ck} {n : Int} (h1 : c.1 ≤ n) (h2 : n < c.1 + c.2.size) : ∃ b, atC (c :: cs) n = some b := by
  rw [atC, if_pos ⟨h1, h2⟩]
  have h3 : c.2.data.size = c.2.size := rfl
  exact ⟨_, Array.getElem?_eq_getElem (by omega : (n - c.1).toNat < c.2.data.size)⟩
theorem data_ext {s u : ByteArray} (hz : s.size = u.size) (h : ∀ i, i < s.size → s.data[i]? = u.data[i]?) : s = u := by
  apply ByteArray.ext
  apply Array.ext_getElem?
  intro i
  have h1 : s.data.size = s.size := rfl
  have h2 : u.data.size = u.size := rfl
  by_cases hi : i < s.size
  · exact h i hi
  · rw [Array.getElem?_eq_none (by omega), Array.getElem?_eq_none (by omega)]
theorem canon_ext : ∀ {xs ys : List Ck} {lo lo' : Int}, Canon lo xs → Canon lo' ys → (∀ n, atC xs n = atC ys n) → xs = ys
  | [], [], _, _, _, _, _ => rfl
  | [], d :: ys, _, _, _, hy, h => by
    obtain ⟨b, hb⟩ := atC_head (c := d) (cs := ys) (n := d.1) (Int.le_refl _) (by have := hy.2.1; omega)
    rw [← h, atC] at hb
    cases hb
  | c :: xs, [], _, _, hx, _, h => by
    obtain ⟨b, hb⟩ := atC_head (c := c) (cs := xs) (n := c.1) (Int.le_refl _) (by have := hx.2.1; omega)
    rw [h, atC] at hb
    cases hb
  | c :: xs, d :: ys, lo, lo', hx, hy, h => by
    have hx1 := hx.2.1
    have hy1 := hy.2.1
    have hx2 : Srt c.1 (c :: xs) := ⟨Int.le_refl _, (Canon.srt hx).2⟩
    have hy2 : Srt d.1 (d :: ys) := ⟨Int.le_refl _, (Canon.srt hy).2⟩
    have e1 : c.1 = d.1 := by
      rcases Int.lt_trichotomy c.1 d.1 with k | k | k
      · obtain ⟨b, hb⟩ := atC_head (c := c) (cs := xs) (n := c.1) (Int.le_refl _) (by omega)
        rw [h, atC_low hy2 k] at hb; cases hb
      · exact k
      · obtain ⟨b, hb⟩ := atC_head (c := d) (cs := ys) (n := d.1) (Int.le_refl _) (by omega)
        rw [← h, atC_low hx2 k] at hb; cases hb
    have e2 : c.2.size = d.2.size := by
      rcases Nat.lt_trichotomy c.2.size d.2.size with k | k | k
      · obtain ⟨b, hb⟩ := atC_head (c := d) (cs := ys) (n := c.1 + c.2.size) (by omega) (by omega)
        rw [← h, atC, if_neg (by omega), atC_low hx.2.2.srt (by omega)] at hb; cases hb
      · exact k
      · obtain ⟨b, hb⟩ := atC_head (c := c) (cs := xs) (n := d.1 + d.2.size) (by omega) (by omega)
        rw [h, atC, if_neg (by omega), atC_low hy.2.2.srt (by omega)] at hb; cases hb
    have e3 : c.2 = d.2 := by
      refine data_ext e2 fun i hi => ?_
      have := h (c.1 + i)
      rw [atC, if_pos (by omega), atC, if_pos (by omega)] at this
      have z1 : (c.1 + (i : Int) - c.1).toNat = i := by omega
      have z2 : (c.1 + (i : Int) - d.1).toNat = i := by omega
      rwa [z1, z2] at this
    have e4 : xs = ys := by
      refine canon_ext hx.2.2 hy.2.2 fun n => ?_
      have := h n
      by_cases hn : c.1 ≤ n ∧ n < c.1 + c.2.size
      · rw [atC_low hx.2.2.srt (by omega), atC_low hy.2.2.srt (by omega)]
      · rwa [atC, if_neg hn, atC, if_neg (by omega)] at this
    rw [e4, Prod.ext e1 e3]
/-- Two lists, one behind the other. -/
theorem atC_append : ∀ (xs ys : List Ck) (n : Int), atC (xs ++ ys) n = if (∃ c ∈ xs, c.1 ≤ n ∧ n < c.1 + c.2.size) then atC xs n else atC ys n
  | [], ys, n => by simp
  | c :: xs, ys, n => by
    rw [List.cons_append, atC, atC, atC_append xs ys n]
    by_cases h : c.1 ≤ n ∧ n < c.1 + c.2.size
    · rw [if_pos h, if_pos ⟨c, by simp, h⟩, if_pos h]
    · rw [if_neg h]
      by_cases h2 : ∃ c ∈ xs, c.1 ≤ n ∧ n < c.1 + c.2.size
      · obtain ⟨d, hd, hd2⟩ := h2
        rw [if_pos ⟨d, hd, hd2⟩, if_pos ⟨d, by simp [hd], hd2⟩, if_neg h]
      · rw [if_neg h2, if_neg]
        rintro ⟨d, hd, hd2⟩
        rcases List.mem_cons.1 hd with rfl | hd
        · exact h hd2
        · exact h2 ⟨d, hd, hd2⟩
/-! ### neighbours joined -/
/-- One chunk more, joined to the last one where it touches. -/
def joinStep (out : List Ck) (c : Ck) : List Ck :=
  match out.getLast? with
  | some l => if l.1 + l.2.size = c.1 then out.dropLast ++ [(l.1, l.2 ++ c.2)] else out ++ [c]
  | none => [c]
def joinR (c : Ck) : List Ck → List Ck
  | [] => [c]
  | d :: ds => if c.1 + c.2.size = d.1 then joinR (c.1, c.2 ++ d.2) ds else c :: joinR d ds
theorem joinStep_last (acc : List Ck) (c d : Ck) : joinStep (acc ++ [c]) d = if c.1 + c.2.size = d.1 then acc ++ [(c.1, c.2 ++ d.2)] else acc ++ [c] ++ [d] := by
  simp [joinStep]
theorem join_fold : ∀ (ds : List Ck) (acc : List Ck) (c : Ck), ds.foldl joinStep (acc ++ [c]) = acc ++ joinR c ds
  | [], acc, c => rfl
  | d :: ds, acc, c => by
    rw [List.foldl_cons, joinStep_last, joinR]
    split
    · exact join_fold ds acc _
    · rw [join_fold ds (acc ++ [c]) d]; simp
theorem joinR_canon : ∀ (ds : List Ck) (c : Ck), Srt c.1 (c :: ds) → Canon c.1 (joinR c ds)
  | [], c, h => ⟨Int.le_refl _, h.2.1, trivial⟩
  | d :: ds, c, h => by
    have hz : (c.2 ++ d.2).size = c.2.size + d.2.size := ByteArray.size_append
    have h1 := h.2.1
    have h2 := h.2.2.1
    have h3 := h.2.2.2.1
    rw [joinR]
    split
    · rename_i e
      exact joinR_canon ds (c.1, c.2 ++ d.2) ⟨Int.le_refl _, by show 0 < (c.2 ++ d.2).size; omega, by
        have : c.1 + ((c.2 ++ d.2).size : Int) = d.1 + d.2.size := by omega
        show Srt (c.1 + ((c.2 ++ d.2).size : Int)) ds
        rw [this]; exact h.2.2.2.2⟩
    · exact ⟨Int.le_refl _, h1, (joinR_canon ds d ⟨Int.le_refl _, h.2.2.2⟩).mono (by omega)⟩
theorem joinR_at : ∀ (ds : List Ck) (c : Ck) (n : Int), Srt c.1 (c :: ds) → atC (joinR c ds) n = atC (c :: ds) n
  | [], _, _, _ => rfl
  | d :: ds, c, n, h => by
    have hz : (c.2 ++ d.2).size = c.2.size + d.2.size := ByteArray.size_append
    have h1 := h.2.1
    have h2 := h.2.2.1
    have h3 := h.2.2.2.1
    rw [joinR]
    split
    · rename_i e
      rw [joinR_at ds (c.1, c.2 ++ d.2) n ⟨Int.le_refl _, by show 0 < (c.2 ++ d.2).size; omega, by
        have : c.1 + ((c.2 ++ d.2).size : Int) = d.1 + d.2.size := by omega
        show Srt (c.1 + ((c.2 ++ d.2).size : Int)) ds
        rw [this]; exact h.2.2.2.2⟩]
      rw [atC, atC, atC]
      have q1 : c.2.data.size = c.2.size := rfl
      have q2 : d.2.data.size = d.2.size := rfl
      by_cases k1 : c.1 ≤ n ∧ n < c.1 + c.2.size
      · rw [if_pos k1, if_pos (by show c.1 ≤ n ∧ n < c.1 + ((c.2 ++ d.2).size : Int); omega)]
        show (c.2 ++ d.2).data[(n - c.1).toNat]? = _
        rw [ByteArray.data_append, Array.getElem?_append_left (by omega)]
      · rw [if_neg k1]
        by_cases k2 : d.1 ≤ n ∧ n < d.1 + d.2.size
        · rw [if_pos k2, if_pos (by show c.1 ≤ n ∧ n < c.1 + ((c.2 ++ d.2).size : Int); omega)]
          show (c.2 ++ d.2).data[(n - c.1).toNat]? = _
          rw [ByteArray.data_append, Array.getElem?_append_right (by omega)]
          congr 1
          omega
        · rw [if_neg k2, if_neg (by show ¬ (c.1 ≤ n ∧ n < c.1 + ((c.2 ++ d.2).size : Int)); omega)]
    · rw [atC, atC, joinR_at ds d n ⟨Int.le_refl _, h.2.2.2⟩]
def joined (l : List Ck) : List Ck := l.foldl joinStep []
theorem joined_canon {lo : Int} {l : List Ck} (h : Srt lo l) : Canon lo (joined l) := by
  rcases l with _ | ⟨c, ds⟩
  · trivial
  · have : joined (c :: ds) = joinR c ds := join_fold ds [] c
    rw [this]
    exact (joinR_canon ds c ⟨Int.le_refl _, h.2⟩).mono h.1
theorem joined_at {lo : Int} {l : List Ck} (h : Srt lo l) (n : Int) : atC (joined l) n = atC l n := by
  rcases l with _ | ⟨c, ds⟩
  · rfl
  · have : joined (c :: ds) = joinR c ds := join_fold ds [] c
    rw [this]
    exact joinR_at ds c n ⟨Int.le_refl _, h.2⟩
/-! ### gaps filled -/
/-- The bytes of data, which lie at off, from place a to place b. -/
def cutD (off : Int) (data : ByteArray) (a b : Int) : ByteArray := data.extract (a - off).toNat (b - off).toNat
def putL (off : Int) (data : ByteArray) (frm to : Int) : List Ck :=
  if frm < min to (off + data.size) then [(frm, cutD off data frm (min to (off + data.size)))] else []
def gapL (off : Int) (data : ByteArray) : Int → List Ck → List Ck
  | frm, [] => putL off data frm (off + data.size)
  | frm, c :: cs => putL off data frm c.1 ++ c :: gapL off data (max frm (c.1 + c.2.size)) cs
theorem cutD_size {off : Int} {data : ByteArray} {a b : Int} (h1 : off ≤ a) (h2 : a ≤ b) (h3 : b ≤ off + data.size) : ((cutD off data a b).size : Int) = b - a := by
  rw [cutD, ByteArray.size_extract]; omega
theorem cutD_at {off : Int} {data : ByteArray} {a b n : Int} (h1 : off ≤ a) (h2 : a ≤ n) (h3 : n < b) (h4 : b ≤ off + data.size) : (cutD off data a b).data[(n - a).toNat]? = data.data[(n - off).toNat]? := by
  rw [cutD, ByteArray.data_extract, Array.getElem?_extract]
  have q : data.data.size = data.size := rfl
  rw [if_pos (by omega)]
  congr 1
  omega
theorem putL_at {off : Int} {data : ByteArray} {frm to : Int} (h1 : off ≤ frm) (xs : List Ck) (n : Int) : atC (putL off data frm to ++ xs) n = if frm ≤ n ∧ n < to ∧ n < off + data.size then data.data[(n - off).toNat]? else atC xs n := by
  rw [putL]
  split
  · rename_i h
    have hz := cutD_size (off := off) (data := data) (a := frm) (b := min to (off + data.size)) h1 (by omega) (by omega)
    rw [List.cons_append, List.nil_append, atC]
    by_cases k : frm ≤ n ∧ n < to ∧ n < off + data.size
    · rw [if_pos k, if_pos (by dsimp only; omega)]
      exact cutD_at h1 (by omega) (by omega) (by omega)
    · rw [if_neg k, if_neg (by dsimp only; omega)]
  · rw [List.nil_append, if_neg (by omega)]
theorem gapL_at {off : Int} {data : ByteArray} : ∀ (cs : List Ck) (frm lo : Int), Srt lo cs → off ≤ frm → ∀ n, atC (gapL off data frm cs) n = (atC cs n).or (if frm ≤ n ∧ n < off + data.size then data.data[(n - off).toNat]? else none)
  | [], frm, lo, _, h1, n => by
    have := putL_at (to := off + data.size) (data := data) h1 [] n
    rw [List.append_nil] at this
    rw [gapL, this, atC, Option.none_or]
    by_cases k : frm ≤ n ∧ n < off + data.size
    · rw [if_pos k, if_pos (by omega)]
    · rw [if_neg k, if_neg (by omega)]
  | c :: cs, frm, lo, h, h1, n => by
    have hp := h.2.1
    have ih := gapL_at (off := off) (data := data) cs (max frm (c.1 + c.2.size)) (c.1 + c.2.size) h.2.2 (by omega) n
    rw [gapL, putL_at h1, atC, ih, atC]
    by_cases k1 : c.1 ≤ n ∧ n < c.1 + c.2.size
    · rw [if_pos k1, if_neg (by omega), if_pos k1]
      have q1 : c.2.data.size = c.2.size := rfl
      rw [Array.getElem?_eq_getElem (by omega : (n - c.1).toNat < c.2.data.size), Option.some_or]
    · rw [if_neg k1, if_neg k1]
      by_cases k2 : frm ≤ n ∧ n < c.1 ∧ n < off + data.size
      · rw [if_pos k2, atC_low h.2.2 (by omega), Option.none_or, if_pos (by omega)]
      · rw [if_neg k2]
        congr 1
        by_cases k3 : frm ≤ n ∧ n < off + data.size
        · rw [if_pos k3, if_pos (by omega)]
        · rw [if_neg k3, if_neg (by omega)]
theorem putL_srt {off : Int} {data : ByteArray} {frm to lo : Int} (h1 : off ≤ frm) (h2 : lo ≤ frm) (h3 : lo ≤ to) {xs : List Ck} (h : ∀ m, m ≤ to → Srt m xs) : Srt lo (putL off data frm to ++ xs) := by
  rw [putL]
  split
  · rename_i k
    have hz := cutD_size (off := off) (data := data) (a := frm) (b := min to (off + data.size)) h1 (by omega) (by omega)
    refine ⟨h2, ?_, ?_⟩
    · show 0 < (cutD off data frm (min to (off + data.size))).size; omega
    · exact h _ (by dsimp only; omega)
  · exact h lo h3
theorem gapL_srt {off : Int} {data : ByteArray} : ∀ (cs : List Ck) (frm lo : Int), Srt lo cs → off ≤ frm → lo ≤ frm → lo ≤ off + data.size ∨ True → Srt lo (gapL off data frm cs)
  | [], frm, lo, _, h1, h2, _ => by
    rw [gapL, putL]
    split
    · rename_i k
      have hz := cutD_size (off := off) (data := data) (a := frm) (b := min (off + data.size) (off + data.size)) h1 (by omega) (by omega)
      exact ⟨h2, by show 0 < (cutD off data frm (min (off + data.size) (off + data.size))).size; omega, trivial⟩
    · trivial
  | c :: cs, frm, lo, h, h1, h2, _ => by
    have hp := h.2.1
    have hl := h.1
    have ih := gapL_srt (off := off) (data := data) cs (max frm (c.1 + c.2.size)) (c.1 + c.2.size) h.2.2 (by omega) (by omega) (Or.inr trivial)
    rw [gapL]
    exact putL_srt h1 h2 hl fun m hm => ⟨hm, hp, ih⟩
end Go.Proofs.Ytjnbiacnhimkgaa
