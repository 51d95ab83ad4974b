/-
  Frames and splitters of streams, on bytes as lists. No program here but the messages' specification.
-/
import Derived.Test.YtkclgemkeifbaaaMsgSpec
namespace Go.Proofs.Ytkclgemkeifbaaa
open Go.RowKit Go.Proofs

/-- a message's frame -/
def Msg.frB (m : Msg) : List UInt8 := numB 2 m.enc.length ++ m.enc
def Msg.frame (m : Msg) : ByteArray := if m.code = 0 then ⟨m.frB.toArray⟩ else ⟨#[]⟩

/-- what next tells of the bytes that wait: the message, the bytes that wait then, what is wrong -/
def nextS (s : List UInt8) : Option Msg × List UInt8 × Int :=
  if s.length < 2 then (none, s, 0) else
  if 4096 < getNum (s.take 2) then (none, [], 3) else
  if s.length < 2 + getNum (s.take 2) then (none, s, 0) else
  match Msg.dec ((s.drop 2).take (getNum (s.take 2))) with
  | .ref c => (none, [], c)
  | .ok m _ => (some m, s.drop (2 + getNum (s.take 2)), 0)
def feedN : Nat → List UInt8 → List Msg × List UInt8 × Int
  | 0, s => ([], s, 0)
  | k + 1, s => match nextS s with
    | (none, r) => ([], r)
    | (some m, s', _) => (m :: (feedN k s').1, (feedN k s').2)
/-- what Feed tells of the bytes that wait -/
def feed (s : List UInt8) : List Msg × List UInt8 × Int := feedN s.length s

theorem nextS_some {s s' : List UInt8} {m : Msg} {b : Int} (h : nextS s = (some m, s', b)) : s'.length + 2 ≤ s.length ∧ b = 0 := by
  unfold nextS at h
  split at h
  · cases h
  · split at h
    · cases h
    · split at h
      · cases h
      · split at h
        · cases h
        · simp only [Prod.mk.injEq] at h
          obtain ⟨_, rfl, rfl⟩ := h
          refine ⟨?_, rfl⟩
          rw [List.length_drop]; omega
theorem nextS_nil : nextS [] = (none, [], 0) := rfl
theorem feedN_more : ∀ (k : Nat) (s : List UInt8), s.length ≤ k → feedN k s = feed s := by
  intro k
  induction k using Nat.strongRecOn with
  | ind k ih =>
    intro s hs
    cases k with
    | zero =>
      have : s = [] := List.eq_nil_of_length_eq_zero (by omega)
      subst this; rfl
    | succ k =>
      unfold feed
      cases hl : s.length with
      | zero =>
        have : s = [] := List.eq_nil_of_length_eq_zero hl
        subst this; rfl
      | succ n =>
        simp only [feedN]
        cases hn : nextS s with
        | mk o r =>
          cases o with
          | none => rfl
          | some m =>
            obtain ⟨s', b⟩ := r
            have h2 := (nextS_some hn).1
            simp only
            rw [ih k (by omega) s' (by omega), ih n (by omega) s' (by omega)]
theorem feed_none {s : List UInt8} {r : List UInt8 × Int} (h : nextS s = (none, r)) : feed s = ([], r) := by
  rw [← feedN_more (s.length + 1) s (by omega)]
  simp only [feedN, h]
theorem feed_some {s s' : List UInt8} {m : Msg} {b : Int} (h : nextS s = (some m, s', b)) : feed s = (m :: (feed s').1, (feed s').2) := by
  have h2 := (nextS_some h).1
  rw [← feedN_more (s.length + 1) s (by omega)]
  simp only [feedN, h]
  rw [feedN_more s.length s' (by omega)]

theorem nextS_app {a b : List UInt8} {o : Option Msg} {s' : List UInt8} {c : Int} (h : nextS a = (o, s', c)) (hx : o ≠ none ∨ c ≠ 0) : nextS (a ++ b) = (o, (if o = none then s' else s' ++ b), c) := by
  unfold nextS at h ⊢
  by_cases h1 : a.length < 2
  · rw [if_pos h1] at h
    simp only [Prod.mk.injEq] at h
    obtain ⟨rfl, rfl, rfl⟩ := h
    simp at hx
  · rw [if_neg h1] at h
    have ht : (a ++ b).take 2 = a.take 2 := List.take_append_of_le_length (by omega)
    rw [if_neg (by rw [List.length_append]; omega), ht]
    by_cases h2 : 4096 < getNum (a.take 2)
    · rw [if_pos h2] at h ⊢
      simp only [Prod.mk.injEq] at h
      obtain ⟨rfl, rfl, rfl⟩ := h
      rfl
    · rw [if_neg h2] at h ⊢
      by_cases h3 : a.length < 2 + getNum (a.take 2)
      · rw [if_pos h3] at h
        simp only [Prod.mk.injEq] at h
        obtain ⟨rfl, rfl, rfl⟩ := h
        simp at hx
      · rw [if_neg h3] at h
        rw [if_neg (by rw [List.length_append]; omega)]
        have hd : ((a ++ b).drop 2).take (getNum (a.take 2)) = (a.drop 2).take (getNum (a.take 2)) := by
          rw [List.drop_append_of_le_length (by omega), List.take_append_of_le_length (by rw [List.length_drop]; omega)]
        rw [hd]
        split at h
        · rename_i c' hc
          simp only [Prod.mk.injEq] at h
          obtain ⟨rfl, rfl, rfl⟩ := h
          simp
        · rename_i m r hc
          simp only [Prod.mk.injEq] at h
          obtain ⟨rfl, rfl, rfl⟩ := h
          simp only [List.drop_append_of_le_length (show 2 + getNum (a.take 2) ≤ a.length by omega)]
          simp
theorem nextS_bad {a : List UInt8} {s' : List UInt8} {c : Int} (h : nextS a = (none, s', c)) : (c = 0 ∧ s' = a) ∨ (c ≠ 0 ∧ s' = []) := by
  unfold nextS at h
  split at h
  · simp only [Prod.mk.injEq] at h; exact .inl ⟨h.2.2.symm, h.2.1.symm⟩
  · split at h
    · simp only [Prod.mk.injEq] at h; exact .inr ⟨by rw [← h.2.2]; decide, h.2.1.symm⟩
    · split at h
      · simp only [Prod.mk.injEq] at h; exact .inl ⟨h.2.2.symm, h.2.1.symm⟩
      · split at h
        · rename_i c' hc
          simp only [Prod.mk.injEq] at h
          refine .inr ⟨?_, h.2.1.symm⟩
          rw [← h.2.2]
          rcases Msg.dec_ref hc with h | h | h <;> rw [h] <;> decide
        · cases h
theorem feed_rest {a : List UInt8} : (feed a).2.2 = 0 ∨ (feed a).2.1 = [] := by
  generalize hn : a.length = n
  induction n using Nat.strongRecOn generalizing a with
  | ind n ih =>
    cases h : nextS a with
    | mk o r =>
      obtain ⟨s', c⟩ := r
      cases o with
      | none =>
        rw [feed_none h]
        rcases nextS_bad h with ⟨rfl, _⟩ | ⟨_, rfl⟩
        · exact .inl rfl
        · exact .inr rfl
      | some m =>
        have h2 := (nextS_some h).1
        rw [feed_some h]
        exact ih s'.length (by omega) rfl
/-- bytes in two pieces tell what they tell in one -/
theorem feed_join (a b : List UInt8) : feed (a ++ b) = if (feed a).2.2 = 0 then ((feed a).1 ++ (feed ((feed a).2.1 ++ b)).1, (feed ((feed a).2.1 ++ b)).2) else feed a := by
  generalize hn : a.length = n
  induction n using Nat.strongRecOn generalizing a with
  | ind n ih =>
    cases h : nextS a with
    | mk o r =>
      obtain ⟨s', c⟩ := r
      cases o with
      | none =>
        rw [feed_none h]
        rcases nextS_bad h with ⟨rfl, rfl⟩ | ⟨hc, rfl⟩
        · simp
        · rw [if_neg hc]
          have := nextS_app (b := b) h (.inr hc)
          simp only [if_pos] at this
          rw [feed_none this]
      | some m =>
        have h2 := nextS_some h
        have := nextS_app (b := b) h (.inl (by simp))
        rw [if_neg (by simp)] at this
        rw [feed_some h, feed_some this, ih s'.length (by omega) s' rfl]
        split <;> simp
theorem frB_length (m : Msg) : m.frB.length = 2 + m.enc.length := by unfold Msg.frB; rw [List.length_append, numB_length]
theorem frB_get {m : Msg} (h : m.enc.length ≤ 4096) (b : List UInt8) : getNum ((m.frB ++ b).take 2) = m.enc.length := by
  unfold Msg.frB
  rw [List.append_assoc, List.take_append_of_le_length (by rw [numB_length]; omega), List.take_of_length_le (by rw [numB_length]; omega)]
  unfold numB
  rw [Int.toNat_natCast]
  exact getNum_bigEnd (by omega)
/-- a frame ahead: its message is next -/
theorem nextS_frame {m : Msg} (hm : m.may = true) (hf : m.fits) (h : m.enc.length ≤ 4096) (b : List UInt8) : nextS (m.frB ++ b) = (some m, b, 0) := by
  unfold nextS
  have hl := frB_length m
  rw [frB_get h, if_neg (by rw [List.length_append]; omega), if_neg (by omega), if_neg (by rw [List.length_append]; omega)]
  have hd : ((m.frB ++ b).drop 2).take m.enc.length = m.enc := by
    unfold Msg.frB
    rw [List.append_assoc, List.drop_append_of_le_length (by rw [numB_length]; omega), List.drop_of_length_le (by rw [numB_length]; omega), List.nil_append, List.take_append_of_le_length (Nat.le_refl _), List.take_length]
  rw [hd, Msg.dec_enc hm hf h]
  have hd2 : (m.frB ++ b).drop (2 + m.enc.length) = b := by rw [← hl, List.drop_append_of_le_length (Nat.le_refl _), List.drop_length, List.nil_append]
  simp only [hd2]
theorem feed_frames {l : List Msg} (h : ∀ m ∈ l, m.may = true ∧ m.fits ∧ m.enc.length ≤ 4096) (b : List UInt8) : feed (l.flatMap Msg.frB ++ b) = (l ++ (feed b).1, (feed b).2) := by
  induction l with
  | nil => simp
  | cons m l ih =>
    obtain ⟨h1, h2, h3⟩ := h m (List.mem_cons_self ..)
    rw [List.flatMap_cons, List.append_assoc, feed_some (nextS_frame h1 h2 h3 _), ih (fun x hx => h x (List.mem_cons_of_mem _ hx))]
    simp
end Go.Proofs.Ytkclgemkeifbaaa
