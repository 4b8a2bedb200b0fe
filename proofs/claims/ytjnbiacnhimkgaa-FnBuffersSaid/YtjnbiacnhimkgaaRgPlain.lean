/-
  Plain facts on chunks and ranges: what InsertData gives. No program in sight. Conditions: each lemma bears its own.
-/
import Derived.Test.YtjnbiacnhimkgaaInsPlain
import Derived.Test.YtjnbiacnhimkgaaRgP
namespace Go.Proofs.Ytjnbiacnhimkgaa
/-- The ranges of chunks. -/
def ckRgs (cs : List Ck) : List Rg := cs.map fun c => (c.1, c.1 + (c.2.size : Int))
theorem ckRgs_can : ∀ {cs : List Ck} {lo : Int}, Canon lo cs → CanR lo (ckRgs cs)
  | [], _, _ => trivial
  | c :: cs, _, h => ⟨h.1, by have := h.2.1; show c.1 < c.1 + (c.2.size : Int); omega, ckRgs_can h.2.2⟩
theorem ckRgs_in : ∀ (cs : List Ck) (n : Int), inR (ckRgs cs) n ↔ ∃ b, atC cs n = some b
  | [], n => by
    constructor
    · exact fun h => absurd h (inR_nil n)
    · rintro ⟨b, hb⟩; cases hb
  | c :: cs, n => by
    have e : ckRgs (c :: cs) = (c.1, c.1 + (c.2.size : Int)) :: ckRgs cs := rfl
    rw [e, inR_cons, ckRgs_in cs n]
    by_cases h : c.1 ≤ n ∧ n < c.1 + (c.2.size : Int)
    · obtain ⟨b, hb⟩ := atC_head (cs := cs) h.1 h.2
      exact ⟨fun _ => ⟨b, hb⟩, fun _ => Or.inl h⟩
    · rw [atC, if_neg h]
      exact ⟨fun k => k.resolve_left h, Or.inr⟩
/-- The bytes f gives from lo on, n of them. -/
def bytesOf (f : Int → UInt8) (lo : Int) : Nat → ByteArray
  | 0 => ⟨#[]⟩
  | n + 1 => (bytesOf f lo n).push (f (lo + n))
theorem bytesOf_size (f : Int → UInt8) (lo : Int) : ∀ n, (bytesOf f lo n).size = n
  | 0 => rfl
  | n + 1 => by
    have := bytesOf_size f lo n
    show ((bytesOf f lo n).data.push _).size = n + 1
    rw [Array.size_push]
    exact congrArg (· + 1) this
theorem bytesOf_at (f : Int → UInt8) (lo : Int) : ∀ (n i : Nat), i < n → (bytesOf f lo n).data[i]? = some (f (lo + i))
  | 0, i, h => by omega
  | n + 1, i, h => by
    have hz : (bytesOf f lo n).data.size = n := bytesOf_size f lo n
    show ((bytesOf f lo n).data.push (f (lo + n)))[i]? = _
    rw [Array.getElem?_push, hz]
    split
    · rename_i e; rw [e]
    · exact bytesOf_at f lo n i (by omega)
def rgsCk (f : Int → UInt8) (l : List Rg) : List Ck := l.map fun r => (r.1, bytesOf f r.1 (r.2 - r.1).toNat)
theorem rgsCk_canon (f : Int → UInt8) : ∀ {l : List Rg} {lo : Int}, CanR lo l → Canon lo (rgsCk f l)
  | [], _, _ => trivial
  | r :: rs, _, h => by
    have h2 := h.2.1
    have hz := bytesOf_size f r.1 (r.2 - r.1).toNat
    refine ⟨h.1, ?_, ?_⟩
    · show 0 < (bytesOf f r.1 (r.2 - r.1).toNat).size; omega
    · show Canon (r.1 + ((bytesOf f r.1 (r.2 - r.1).toNat).size : Int) + 1) (rgsCk f rs)
      rw [hz, show r.1 + ((r.2 - r.1).toNat : Int) + 1 = r.2 + 1 from by omega]
      exact rgsCk_canon f h.2.2
theorem rgsCk_at (f : Int → UInt8) : ∀ {l : List Rg} {lo : Int} (n : Int), CanR lo l → (inR l n → atC (rgsCk f l) n = some (f n)) ∧ (¬ inR l n → atC (rgsCk f l) n = none)
  | [], _, n, _ => ⟨fun h => absurd h (inR_nil n), fun _ => rfl⟩
  | r :: rs, _, n, h => by
    have h2 := h.2.1
    have hz := bytesOf_size f r.1 (r.2 - r.1).toNat
    obtain ⟨i1, i2⟩ := rgsCk_at f n h.2.2
    have e : rgsCk f (r :: rs) = (r.1, bytesOf f r.1 (r.2 - r.1).toNat) :: rgsCk f rs := rfl
    rw [inR_cons, e, atC]
    dsimp only
    rw [hz, show r.1 + ((r.2 - r.1).toNat : Int) = r.2 from by omega]
    by_cases k : r.1 ≤ n ∧ n < r.2
    · rw [if_pos k]
      refine ⟨fun _ => ?_, fun hn => absurd (Or.inl k) hn⟩
      rw [bytesOf_at f r.1 _ _ (by omega), show r.1 + ((n - r.1).toNat : Int) = n from by omega]
    · rw [if_neg k]
      exact ⟨fun hh => i1 (hh.resolve_left k), fun hh => i2 fun q => hh (Or.inr q)⟩
/-- The byte that lies at a place when data has come at off. -/
def insB (cs : List Ck) (off : Int) (data : ByteArray) (n : Int) : UInt8 := match atC cs n with | some b => b | none => data.data.getD (n - off).toNat 0
/-- What InsertData's reference gives, what is inserted. -/
def insS (nx : Int) (cs : List Ck) (off : Int) (data : ByteArray) : List Ck := rgsCk (insB cs off data) (addRec (max off nx, off + (data.size : Int)) (ckRgs cs))
def insI (nx : Int) (cs : List Ck) (off : Int) (data : ByteArray) : List Ck := joined (gapL off data (max off nx) cs)
theorem ins_same {nx : Int} {cs : List Ck} {off : Int} {data : ByteArray} (h : Canon nx cs) (hp : max off nx < off + (data.size : Int)) : insI nx cs off data = insS nx cs off data := by
  have s1 : Srt nx (gapL off data (max off nx) cs) := gapL_srt cs _ nx h.srt (by omega) (by omega) (Or.inr trivial)
  have s2 : CanR nx (addRec (max off nx, off + (data.size : Int)) (ckRgs cs)) := addRec_can _ _ nx (ckRgs_can h) (by show nx ≤ max off nx; omega) hp
  refine canon_ext (joined_canon s1) (rgsCk_canon _ s2) fun n => ?_
  show atC (joined (gapL off data (max off nx) cs)) n = atC (rgsCk (insB cs off data) (addRec (max off nx, off + (data.size : Int)) (ckRgs cs))) n
  rw [joined_at s1, gapL_at cs _ nx h.srt (by omega)]
  obtain ⟨i1, i2⟩ := rgsCk_at (insB cs off data) n s2
  have hin := addRec_in (ckRgs cs) (max off nx, off + (data.size : Int)) nx n (ckRgs_can h) hp
  rw [ckRgs_in] at hin
  cases hc : atC cs n with
  | some b =>
    rw [Option.some_or, i1 (hin.2 (Or.inr ⟨b, hc⟩)), insB, hc]
  | none =>
    rw [Option.none_or]
    by_cases k : max off nx ≤ n ∧ n < off + (data.size : Int)
    · rw [if_pos k, i1 (hin.2 (Or.inl k)), insB, hc]
      have q : data.data.size = data.size := rfl
      rw [Array.getElem?_eq_getElem (by omega : (n - off).toNat < data.data.size)]
      simp [Array.getD]
      intro h
      omega
    · rw [if_neg k, i2 fun q => ?_]
      rcases hin.1 q with q | ⟨b, hb⟩
      · exact k q
      · rw [hc] at hb; cases hb
end Go.Proofs.Ytjnbiacnhimkgaa
