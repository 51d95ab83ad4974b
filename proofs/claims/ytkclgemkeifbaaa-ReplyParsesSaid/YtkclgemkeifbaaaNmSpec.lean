/-
  Names in plain Lean: which labels may be, their bytes, how they are read.
-/
import Derived.Test.YtkclgemkeifbaaaPackL
namespace Go.Proofs.Ytkclgemkeifbaaa
open Go.RowKit Go.Proofs

abbrev Lbl := List UInt8
def lblOk (x : Lbl) : Bool := decide (1 ≤ x.length) && decide (x.length ≤ 63)
def lbSize (l : List Lbl) : Nat := (l.map fun x => 1 + x.length).sum
/-- may the labels be? -/
def mayL (l : List Lbl) : Bool := l.all lblOk && decide (lbSize l ≤ 254)
def lblB (x : Lbl) : List UInt8 := UInt8.ofNat x.length :: x
/-- the labels' bytes, without the byte 0 -/
def bytesL (l : List Lbl) : List UInt8 := l.flatMap lblB
abbrev strV (x : Lbl) : Value := .string ⟨x.toArray⟩
abbrev strVs (l : List Lbl) : List Value := l.map strV

theorem lblOk_iff (x : Lbl) : lblOk x = true ↔ 1 ≤ x.length ∧ x.length ≤ 63 := by unfold lblOk; simp
theorem lbSize_snoc (l : List Lbl) (x : Lbl) : lbSize (l ++ [x]) = lbSize l + (1 + x.length) := by unfold lbSize; simp
theorem lbSize_take (l : List Lbl) (k : Nat) (h : k < l.length) : lbSize (l.take (k + 1)) = lbSize (l.take k) + (1 + l[k].length) := by
  rw [List.take_succ_eq_append_getElem h, lbSize_snoc]
theorem lbSize_cut (l : List Lbl) (k : Nat) : lbSize (l.take k) + lbSize (l.drop k) = lbSize l := by
  unfold lbSize
  rw [← List.sum_append, ← List.map_append, List.take_append_drop]
theorem lbSize_bytes (l : List Lbl) : (bytesL l).length = lbSize l := by
  unfold bytesL lbSize lblB
  induction l with
  | nil => rfl
  | cons x l ih => simp [ih]; omega
theorem len_lbSize (l : List Lbl) : l.length ≤ lbSize l := by
  unfold lbSize
  induction l with
  | nil => simp
  | cons x l ih => simp; omega
theorem mayL_iff (l : List Lbl) : mayL l = true ↔ (∀ x ∈ l, 1 ≤ x.length ∧ x.length ≤ 63) ∧ lbSize l ≤ 254 := by
  unfold mayL
  rw [Bool.and_eq_true, List.all_eq_true, decide_eq_true_iff]
  simp only [lblOk_iff]
theorem mayL_nil : mayL [] = true := rfl
theorem mayL_len {l : List Lbl} (h : mayL l = true) : l.length ≤ 254 := by
  have h1 := ((mayL_iff l).1 h).2
  have := len_lbSize l
  omega
theorem may_take {l : List Lbl} {k : Nat} (h : k < l.length) (ha : (l.take k).all lblOk = true) (hx : lblOk l[k] = true) : (l.take (k + 1)).all lblOk = true := by
  rw [List.take_succ_eq_append_getElem h, List.all_append, ha]
  simp [hx]
theorem may_bad {l : List Lbl} {k : Nat} (h : k < l.length) (hx : lblOk l[k] = false) : mayL l = false := by
  unfold mayL
  have : l.all lblOk = false := by
    rw [List.all_eq_false]
    exact ⟨l[k], List.getElem_mem h, by rw [hx]; decide⟩
  rw [this]; rfl
theorem may_much {l : List Lbl} {k : Nat} (hx : 254 < lbSize (l.take k)) : mayL l = false := by
  have := lbSize_cut l k
  unfold mayL
  rw [decide_eq_false (by omega), Bool.and_false]
theorem may_end {l : List Lbl} {k : Nat} (h : l.length ≤ k) (ha : (l.take k).all lblOk = true) : mayL l = decide (lbSize (l.take k) ≤ 254) := by
  rw [List.take_of_length_le h] at ha ⊢
  unfold mayL
  rw [ha, Bool.true_and]
theorem bytesL_take (l : List Lbl) (k : Nat) (h : k < l.length) : bytesL (l.take (k + 1)) = bytesL (l.take k) ++ lblB l[k] := by
  unfold bytesL
  rw [List.take_succ_eq_append_getElem h, List.flatMap_append]; simp
theorem bytesL_drop (l : List Lbl) (k : Nat) (h : k < l.length) : bytesL (l.drop k) = lblB l[k] ++ bytesL (l.drop (k + 1)) := by
  unfold bytesL
  rw [List.drop_eq_getElem_cons h]; rfl
theorem lblB_length (x : Lbl) : (lblB x).length = 1 + x.length := by unfold lblB; simp; omega

/-- what comes of reading a name -/
inductive NRes where
  | err (e : Int)
  | ok (l : List Lbl) (behind : Nat)

/-- the place behind, if a pointer has set it already -/
def NRes.fin : Option Nat → NRes → NRes
  | none, r => r
  | some _, .err e => .err e
  | some q, .ok l _ => .ok l q

/-- the byte at a place -/
def bt (l : List UInt8) (p : Nat) : Nat := (l.getD p 0).toNat
theorem bt_lt (l : List UInt8) (p : Nat) : bt l p < 256 := (l.getD p 0).toNat_lt
theorem bt_app (a : List UInt8) (x : UInt8) (b : List UInt8) : bt (a ++ x :: b) a.length = x.toNat := by unfold bt; simp
/-- the labels at a place, which is below the bound's pointers, with the labels ahead -/
def rd (msg : List UInt8) (p bound : Nat) (l : List Lbl) : NRes :=
  if _h0 : p < msg.length then
    if bt msg p = 0 then .ok l (p + 1) else
    if 192 ≤ bt msg p then
      if p + 1 < msg.length then
        if _h2 : (bt msg p - 192) * 256 + bt msg (p + 1) < bound then
          (rd msg ((bt msg p - 192) * 256 + bt msg (p + 1)) ((bt msg p - 192) * 256 + bt msg (p + 1)) l).fin (some (p + 2))
        else .err 10
      else .err 2
    else if 63 < bt msg p then .err 4 else
    if _h3 : p + 1 + bt msg p ≤ msg.length then
      if mayL (l ++ [(msg.drop (p + 1)).take (bt msg p)]) = true then rd msg (p + 1 + bt msg p) bound (l ++ [(msg.drop (p + 1)).take (bt msg p)]) else .err 9
    else .err 2
  else .err 2
termination_by (bound, msg.length - p)

theorem NRes.fin_fin (q : Option Nat) (p : Nat) (r : NRes) : (r.fin (some p)).fin q = match q with | none => r.fin (some p) | some k => r.fin (some k) := by
  cases q <;> cases r <;> rfl

theorem rd_short {msg : List UInt8} {p bound : Nat} {l : List Lbl} (h : msg.length ≤ p) : rd msg p bound l = .err 2 := by
  rw [rd, dif_neg (by omega)]
theorem rd_end {msg : List UInt8} {p bound : Nat} {l : List Lbl} (h : p < msg.length) (hn : bt msg p = 0) : rd msg p bound l = .ok l (p + 1) := by
  rw [rd, dif_pos h, if_pos hn]
theorem rd_ptr0 {msg : List UInt8} {p bound : Nat} {l : List Lbl} (h : p < msg.length) (hn : 192 ≤ bt msg p) (h1 : msg.length ≤ p + 1) : rd msg p bound l = .err 2 := by
  rw [rd, dif_pos h, if_neg (by omega), if_pos hn, if_neg (by omega)]
theorem rd_ptr1 {msg : List UInt8} {p bound : Nat} {l : List Lbl} (h : p < msg.length) (hn : 192 ≤ bt msg p) (h1 : p + 1 < msg.length) (h2 : bound ≤ (bt msg p - 192) * 256 + bt msg (p + 1)) : rd msg p bound l = .err 10 := by
  rw [rd, dif_pos h, if_neg (by omega), if_pos hn, if_pos h1, dif_neg (by omega)]
theorem rd_ptr2 {msg : List UInt8} {p bound : Nat} {l : List Lbl} (h : p < msg.length) (hn : 192 ≤ bt msg p) (h1 : p + 1 < msg.length) (h2 : (bt msg p - 192) * 256 + bt msg (p + 1) < bound) :
    rd msg p bound l = (rd msg ((bt msg p - 192) * 256 + bt msg (p + 1)) ((bt msg p - 192) * 256 + bt msg (p + 1)) l).fin (some (p + 2)) := by
  rw [rd, dif_pos h, if_neg (by omega), if_pos hn, if_pos h1, dif_pos h2]
theorem rd_form {msg : List UInt8} {p bound : Nat} {l : List Lbl} (h : p < msg.length) (hn : bt msg p < 192) (h63 : 63 < bt msg p) : rd msg p bound l = .err 4 := by
  rw [rd, dif_pos h, if_neg (by omega), if_neg (by omega), if_pos h63]
theorem rd_cut {msg : List UInt8} {p bound : Nat} {l : List Lbl} (h : p < msg.length) (hn : 1 ≤ bt msg p) (h63 : bt msg p ≤ 63) (h3 : msg.length < p + 1 + bt msg p) : rd msg p bound l = .err 2 := by
  rw [rd, dif_pos h, if_neg (by omega), if_neg (by omega), if_neg (by omega), dif_neg (by omega)]
theorem rd_bad {msg : List UInt8} {p bound : Nat} {l : List Lbl} (h : p < msg.length) (hn : 1 ≤ bt msg p) (h63 : bt msg p ≤ 63) (h3 : p + 1 + bt msg p ≤ msg.length) (h4 : mayL (l ++ [(msg.drop (p + 1)).take (bt msg p)]) = false) : rd msg p bound l = .err 9 := by
  rw [rd, dif_pos h, if_neg (by omega), if_neg (by omega), if_neg (by omega), dif_pos (by omega), if_neg (by rw [h4]; decide)]
theorem rd_lbl {msg : List UInt8} {p bound : Nat} {l : List Lbl} (h : p < msg.length) (hn : 1 ≤ bt msg p) (h63 : bt msg p ≤ 63) (h3 : p + 1 + bt msg p ≤ msg.length) (h4 : mayL (l ++ [(msg.drop (p + 1)).take (bt msg p)]) = true) :
    rd msg p bound l = rd msg (p + 1 + bt msg p) bound (l ++ [(msg.drop (p + 1)).take (bt msg p)]) := by
  rw [rd, dif_pos h, if_neg (by omega), if_neg (by omega), if_neg (by omega), dif_pos (by omega), if_pos h4]

/-- how much is left to be read, at most -/
def rdM (msg : List UInt8) (p bound : Nat) : Nat := bound * (msg.length + 1) + (msg.length - p)
theorem rdM_lbl {msg : List UInt8} {p n bound : Nat} (h : p < msg.length) : rdM msg (p + 1 + n) bound < rdM msg p bound := by
  unfold rdM; omega
theorem rdM_ptr {msg : List UInt8} {p to bound : Nat} (h : to < bound) : rdM msg to to < rdM msg p bound := by
  unfold rdM
  have : (to + 1) * (msg.length + 1) ≤ bound * (msg.length + 1) := Nat.mul_le_mul_right _ h
  rw [Nat.add_mul] at this
  omega

/-- what is read may be, and lies in the message -/
theorem rd_ok {msg : List UInt8} {p bound : Nat} {l m : List Lbl} {e : Nat} (h : rd msg p bound l = .ok m e) (hl : mayL l = true) : mayL m = true ∧ p < e ∧ e ≤ msg.length := by
  induction hk : rdM msg p bound using Nat.strongRecOn generalizing p bound l m e with
  | _ k ih =>
    by_cases h0 : p < msg.length
    · by_cases hz : bt msg p = 0
      · rw [rd_end h0 hz] at h
        cases h
        exact ⟨hl, by omega, by omega⟩
      · by_cases h192 : 192 ≤ bt msg p
        · by_cases h1 : p + 1 < msg.length
          · by_cases h2 : (bt msg p - 192) * 256 + bt msg (p + 1) < bound
            · rw [rd_ptr2 h0 h192 h1 h2] at h
              cases hr : rd msg ((bt msg p - 192) * 256 + bt msg (p + 1)) ((bt msg p - 192) * 256 + bt msg (p + 1)) l with
              | err c => rw [hr] at h; cases h
              | ok m' e' =>
                rw [hr] at h
                cases h
                have := ih _ (by rw [← hk]; exact rdM_ptr h2) hr hl rfl
                exact ⟨this.1, by omega, by omega⟩
            · rw [rd_ptr1 h0 h192 h1 (by omega)] at h; cases h
          · rw [rd_ptr0 h0 h192 (by omega)] at h; cases h
        · by_cases h63 : 63 < bt msg p
          · rw [rd_form h0 (by omega) h63] at h; cases h
          · by_cases h3 : p + 1 + bt msg p ≤ msg.length
            · by_cases h4 : mayL (l ++ [(msg.drop (p + 1)).take (bt msg p)]) = true
              · rw [rd_lbl h0 (by omega) (by omega) h3 h4] at h
                have := ih _ (by rw [← hk]; exact rdM_lbl h0) h h4 rfl
                exact ⟨this.1, by omega, this.2.2⟩
              · rw [rd_bad h0 (by omega) (by omega) h3 (by simpa using h4)] at h; cases h
            · rw [rd_cut h0 (by omega) (by omega) (by omega)] at h; cases h
    · rw [rd_short (by omega)] at h; cases h

/-- a name that was written is read again -/
theorem rd_bytes {a b : List UInt8} {bound : Nat} (l m : List Lbl) (h : mayL (m ++ l) = true) : rd (a ++ bytesL l ++ 0 :: b) a.length bound m = .ok (m ++ l) (a.length + (lbSize l + 1)) := by
  induction l generalizing a m with
  | nil =>
    have e : a ++ bytesL [] ++ 0 :: b = a ++ 0 :: b := by simp [bytesL]
    have hlt : a.length < (a ++ 0 :: b).length := by simp
    rw [e, rd_end hlt (by rw [bt_app]; rfl)]
    simp [lbSize]
  | cons x l ih =>
    obtain ⟨hx, hs⟩ := (mayL_iff _).1 h
    have hx := hx x (by simp)
    have e : a ++ bytesL (x :: l) ++ 0 :: b = (a ++ lblB x) ++ bytesL l ++ 0 :: b := by unfold bytesL; simp
    have e2 : m ++ x :: l = (m ++ [x]) ++ l := by simp
    have hb : (UInt8.ofNat x.length).toNat = x.length := by rw [UInt8.toNat_ofNat']; omega
    have e3 : a ++ bytesL (x :: l) ++ 0 :: b = a ++ UInt8.ofNat x.length :: (x ++ (bytesL l ++ 0 :: b)) := by unfold bytesL lblB; simp
    have hlt : a.length < (a ++ bytesL (x :: l) ++ 0 :: b).length := by rw [e3]; simp
    have hg : bt (a ++ bytesL (x :: l) ++ 0 :: b) a.length = x.length := by rw [e3, bt_app, hb]
    have hd : ((a ++ bytesL (x :: l) ++ 0 :: b).drop (a.length + 1)).take x.length = x := by
      rw [e3, ← List.drop_drop, List.drop_left]; simp
    have hz : lbSize (m ++ x :: l) = lbSize (m ++ [x]) + lbSize l := by unfold lbSize; simp; omega
    have h4 : mayL (m ++ [x]) = true := by
      rw [mayL_iff]
      refine ⟨fun y hy => ((mayL_iff _).1 h).1 y ?_, by omega⟩
      rw [e2]; exact List.mem_append_left _ hy
    rw [rd_lbl hlt (by omega) (by omega) (by rw [hg, e3]; simp; omega) (by rw [hg, hd]; exact h4), hg, hd]
    have := ih (a := a ++ lblB x) (m ++ [x]) (by rw [← e2]; exact h)
    rw [← e] at this
    rw [show a.length + 1 + x.length = (a ++ lblB x).length by rw [List.length_append, lblB_length]; omega, this, e2]
    congr 1
    rw [List.length_append, lblB_length]
    unfold lbSize
    simp; omega
end Go.Proofs.Ytkclgemkeifbaaa
