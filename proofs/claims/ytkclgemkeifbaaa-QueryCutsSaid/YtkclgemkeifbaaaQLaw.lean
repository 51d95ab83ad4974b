/-
  Questions in plain Lean: what was asked is told again; what is cut or has something behind is malformed.
-/
import Derived.Test.YtkclgemkeifbaaaQSpec
import Derived.Test.YtkclgemkeifbaaaQAsk
import Derived.Test.YtkclgemkeifbaaaHeadP
namespace Go.Proofs.Ytkclgemkeifbaaa
open Go.RowKit Go.Proofs

/-- the head of a question with so many additional records -/
def hdMore (id more : Int) : Hd := { hdZero with id := id, des := true, c0 := 1, c3 := more }
def hdMoreB (id more : Int) : List UInt8 := two id ++ [1, 0, 0, 1, 0, 0, 0, 0] ++ two more
theorem hdMore_fits {id more : Int} (h : 0 ≤ id ∧ id ≤ 65535) (hm : 0 ≤ more ∧ more ≤ 65535) : (hdMore id more).Fits := by
  constructor <;> simp only [hdMore, hdZero] <;> omega
theorem hdMore_bytes (id more : Int) : (hdMore id more).bytes = hdMoreB id more := by
  simp [Hd.bytes, Hd.part, Hd.cs, Hd.flags, Hd.fl, hdMore, hdZero, hdMoreB, bitI, two, bigEnd]
theorem hdMoreB_zero (id : Int) : hdMoreB id 0 = hdAskB id := by simp [hdMoreB, hdAskB, two, bigEnd]
theorem hdMoreB_length (id more : Int) : (hdMoreB id more).length = 12 := by simp [hdMoreB, two_length]
theorem hdRead_more {id more : Int} (h : 0 ≤ id ∧ id ≤ 65535) (hm : 0 ≤ more ∧ more ≤ 65535) (t : List UInt8) : hdRead (hdMoreB id more ++ t) = hdMore id more := by
  rw [← hdMore_bytes]
  exact hdRead_app _ (hdMore_fits h hm) (by simp [Hd.bad, hdMore, hdZero]) t
/-- a question's bytes, with so many additional records and something behind -/
def askM (id more : Int) (l : List Lbl) (typ cls : Int) (t : List UInt8) : List UInt8 := hdMoreB id more ++ (bytesL l ++ 0 :: (two typ ++ (two cls ++ t)))
theorem askB_eq (id : Int) (l : List Lbl) (typ : Int) : askB id l typ = askM id 0 l typ 1 [] := by
  unfold askB askM
  rw [hdMoreB_zero]
  simp [numB, two]
theorem numAt_two' (n : Int) (h0 : 0 ≤ n) (h1 : n ≤ 65535) (b : List UInt8) : numAt (two n ++ b) 0 = n := numAt_two n h0 h1 b
theorem numAt_two2 (m n : Int) (h0 : 0 ≤ n) (h1 : n ≤ 65535) (b : List UInt8) : numAt (two m ++ (two n ++ b)) 2 = n := by
  rw [numAt_app _ _ 2 (two_length m).symm]; exact numAt_two n h0 h1 b
theorem rd_ask {id more typ cls : Int} {l : List Lbl} {t : List UInt8} (h : mayL l = true) : rd (askM id more l typ cls t) 12 12 [] = .ok l (12 + (lbSize l + 1)) := by
  have e : askM id more l typ cls t = hdMoreB id more ++ bytesL l ++ 0 :: (two typ ++ (two cls ++ t)) := by unfold askM; simp
  have := rd_bytes (a := hdMoreB id more) (b := two typ ++ (two cls ++ t)) (bound := 12) l [] h
  rw [hdMoreB_length] at this
  rw [e]; exact this
theorem drop_ask (id more : Int) (l : List Lbl) (typ cls : Int) (t : List UInt8) : (askM id more l typ cls t).drop (12 + (lbSize l + 1)) = two typ ++ (two cls ++ t) := by
  have e : askM id more l typ cls t = (hdMoreB id more ++ (bytesL l ++ [0])) ++ (two typ ++ (two cls ++ t)) := by unfold askM; simp
  rw [e]
  have hl : (hdMoreB id more ++ (bytesL l ++ [0])).length = 12 + (lbSize l + 1) := by simp [hdMoreB_length, lbSize_bytes]
  rw [← hl, List.drop_left]
theorem qQuest_ask {id more typ cls : Int} {l : List Lbl} {t : List UInt8} (h : mayL l = true) (hi : 0 ≤ id ∧ id ≤ 65535) (hm : 0 ≤ more ∧ more ≤ 65535) (ht : 0 ≤ typ ∧ typ ≤ 65535) (hc : 0 ≤ cls ∧ cls ≤ 65535) :
    qQuest (askM id more l typ cls t) = if t ≠ [] ∧ more = 0 then none else some (l, typ, cls) := by
  have hr : hdRead (askM id more l typ cls t) = hdMore id more := hdRead_more hi hm _
  unfold qQuest
  rw [hr, if_pos (show countedB (hdMore id more).c0 (hdMore id more).c1 (hdMore id more).c2 = true from rfl), rd_ask h]
  simp only
  rw [drop_ask, numAt_two _ ht.1 ht.2, numAt_two2 _ _ hc.1 hc.2]
  have hl : (two typ ++ (two cls ++ t)).length = 4 + t.length := by simp [two_length]; omega
  have h3 : (hdMore id more).c3 = more := rfl
  rw [hl, h3, if_neg (by omega)]
  by_cases hb : t ≠ [] ∧ more = 0
  · rw [if_pos hb, if_pos ⟨by have := List.length_pos_iff.2 hb.1; omega, by omega⟩]
  · rw [if_neg hb, if_neg]
    rintro ⟨h1, h2⟩
    refine hb ⟨?_, by omega⟩
    intro he; rw [he] at h1; simp at h1
theorem qOut_ask {id more typ cls : Int} {l : List Lbl} {t : List UInt8} (h : mayL l = true) (hi : 0 ≤ id ∧ id ≤ 65535) (hm : 0 ≤ more ∧ more ≤ 65535) (ht : 0 ≤ typ ∧ typ ≤ 65535) (hc : 0 ≤ cls ∧ cls ≤ 65535) :
    qOut (askM id more l typ cls t) = if t ≠ [] ∧ more = 0 then (hdMore id more, none, 1, 0) else (hdMore id more, some (l, typ, cls), if (typ = 1 ∨ typ = 33) ∧ cls = 1 then 0 else 4, 0) := by
  have hr : hdRead (askM id more l typ cls t) = hdMore id more := hdRead_more hi hm _
  have hl : 12 ≤ (askM id more l typ cls t).length := by unfold askM; rw [List.length_append, hdMoreB_length]; omega
  unfold qOut
  rw [if_neg (by omega), hr, qQuest_ask h hi hm ht hc, if_neg (by simp [hdMore, hdZero]), if_neg (by simp [hdMore, hdZero])]
  by_cases hb : t ≠ [] ∧ more = 0
  · rw [if_pos hb, if_pos hb]
  · rw [if_neg hb, if_neg hb]
end Go.Proofs.Ytkclgemkeifbaaa
