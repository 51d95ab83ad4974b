/-
  Feed again, and the statements' messages as a list.
-/
import Derived.Test.YtkclgemkeifbaaaStrSpeak
namespace Go.Proofs.Ytkclgemkeifbaaa
open Go.RowKit Go.Proofs

/-- what Feed tells of a splitter -/
def feedFrom (st : List UInt8 × Int) (t : List UInt8) : List Msg × List UInt8 × Int := if st.2 = 0 then feed (st.1 ++ t) else ([], st)
theorem feed_from (a b : List UInt8) : feed (a ++ b) = ((feed a).1 ++ (feedFrom (feed a).2 b).1, (feedFrom (feed a).2 b).2) := by
  rw [feed_join]
  unfold feedFrom
  split <;> simp
theorem feedFrom_from (st : List UInt8 × Int) (a b : List UInt8) : feedFrom st (a ++ b) = ((feedFrom st a).1 ++ (feedFrom (feedFrom st a).2 b).1, (feedFrom (feedFrom st a).2 b).2) := by
  by_cases h : st.2 = 0
  · have e : ∀ t, feedFrom st t = feed (st.1 ++ t) := fun t => by unfold feedFrom; rw [if_pos h]
    rw [e, e, ← List.append_assoc, feed_from]
  · have e : ∀ t, feedFrom st t = ([], st) := fun t => by unfold feedFrom; rw [if_neg h]
    rw [e, e, e]; rfl
theorem feed_shorter (a : List UInt8) : (feed a).2.1.length ≤ a.length := by
  generalize hn : a.length = n
  induction n using Nat.strongRecOn generalizing a with
  | ind n ih =>
    cases h : nextS a with
    | mk o r =>
      obtain ⟨s', c⟩ := r
      cases o with
      | none =>
        rw [feed_none h]
        rcases nextS_bad h with ⟨_, rfl⟩ | ⟨_, rfl⟩ <;> simp <;> omega
      | some m =>
        have h2 := (nextS_some h).1
        rw [feed_some h]
        have := ih s'.length (by omega) s' rfl
        show (feed s').2.1.length ≤ _
        omega
theorem feed_few (a : List UInt8) : (feed a).1.length ≤ a.length := by
  generalize hn : a.length = n
  induction n using Nat.strongRecOn generalizing a with
  | ind n ih =>
    cases h : nextS a with
    | mk o r =>
      obtain ⟨s', c⟩ := r
      cases o with
      | none => rw [feed_none h]; simp
      | some m =>
        have h2 := (nextS_some h).1
        rw [feed_some h]
        have := ih s'.length (by omega) s' rfl
        simp; omega
theorem from_any {W : World} {q : Nat} {st : List UInt8 × Int} (t : List UInt8) (h : SplAt W q st.1 st.2) (hl : st.1.length + t.length ≤ 1000000) :
    Calls Try.prog 24 #[.pointer (some ⟨q, 0, none⟩), .string ⟨t.toArray⟩] W (FeedPost W q (feedFrom st t)) := by
  obtain ⟨s, c⟩ := st
  by_cases hc : c = 0
  · subst hc
    have e : feedFrom (s, 0) t = feed (s ++ t) := by unfold feedFrom; rw [if_pos rfl]
    rw [e]
    exact feed_any h hl
  · have e : feedFrom (s, c) t = ([], s, c) := by unfold feedFrom; rw [if_neg hc]
    rw [e]
    refine (feed_stopped h hc _).mono ?_
    rintro e w' ⟨rfl, rfl⟩
    exact ⟨Fr.refl _ _, h, [], _, rfl, rfl, MsgsOwn.nil _ _⟩

abbrev SMsg.cells (x : SMsg) : List Value := [.int .i64 x.kind, .int .i64 x.node, .string x.key]
/-- the frames of the statements' messages -/
def frs (l : List SMsg) : List UInt8 := l.flatMap fun x => x.told.frB
theorem frs_length (l : List SMsg) : (frs l).length ≤ l.length * 102 := by
  unfold frs
  refine flatMap_le _ _ _ (fun x _ => ?_)
  rw [frB_length]
  have := told_enc x
  omega
theorem frs_snoc (l : List SMsg) (i : Nat) (hi : i < l.length) : frs (l.take (i + 1)) = frs (l.take i) ++ l[i].told.frB := by
  unfold frs
  rw [List.take_succ_eq_append_getElem hi, List.flatMap_append]
  simp
theorem frame_told {p : MsgP} {w : World} (x : SMsg) (h : MsgAt w x.told p) : Calls Try.prog 22 #[x.told.val p] w fun e w' => e = .returned (.tuple #[.string ⟨x.told.frB.toArray⟩, .int .i64 0]) ∧ Gr w w' := by
  have := frame_any x.told p w (told_fits x) h
  have hfr : x.told.frame = ⟨x.told.frB.toArray⟩ := by unfold Msg.frame; rw [if_pos (told_code x)]
  rwa [told_code, hfr] at this
theorem mk_app' (s t : List UInt8) : (⟨s.toArray⟩ : ByteArray) ++ ⟨t.toArray⟩ = ⟨(s ++ t).toArray⟩ := by apply ByteArray.ext; simp
theorem SMsg.at {w : World} {a : Option Addr} {cap : Nat} {l : List SMsg} (h : SlA w a l.length cap (l.flatMap SMsg.cells)) (i : Nat) (hi : i < l.length) :
    ∃ b o, a = some ⟨b, o, none⟩ ∧ w.cell? ⟨b, o + i * 3, none⟩ = some (.int .i64 l[i].kind) ∧ w.cell? ⟨b, o + i * 3 + 1, none⟩ = some (.int .i64 l[i].node) ∧ w.cell? ⟨b, o + i * 3 + 2, none⟩ = some (.string l[i].key) := by
  obtain ⟨b, o, e, hc⟩ := h.elem (f := SMsg.cells) (n := 3) (fun _ => rfl) (by decide) i hi
  exact ⟨b, o, e, by have := hc 0 _ rfl; simpa using this, hc 1 _ rfl, hc 2 _ rfl⟩
theorem cut_minK (K : Nat) (c : Int) (hc : c = K) (s : List UInt8) : ∃ m : Nat, m ≤ s.length ∧ m ≤ K ∧ (if c < (s.length : Int) then c else (s.length : Int)) = (m : Int) ∧ min (s.length : Int) c = (m : Int) ∧ m = min s.length K :=
  ⟨min s.length K, by omega, by omega, by split <;> omega, by omega, rfl⟩
end Go.Proofs.Ytkclgemkeifbaaa
