/-
  Package reply: a question's bytes; replies in plain Lean.
-/
import Derived.Test.YtkclgemkeifbaaaRepBytes
import Derived.Test.YtkclgemkeifbaaaQSpec
import Derived.Test.YtkclgemkeifbaaaVar
namespace Go.Proofs.Ytkclgemkeifbaaa
open Go.RowKit Go.Proofs

def quesB (asked : Bool) (name : List Lbl) (t c : Int) : List UInt8 := if asked = true ∧ mayL name = true then (bytesL name ++ [0]) ++ (numB 2 t ++ numB 2 c) else []
def quesCode (asked : Bool) (name : List Lbl) : Int := if asked = true ∧ mayL name = false then 9 else 0
theorem quesB_le (asked : Bool) (name : List Lbl) (t c : Int) : (quesB asked name t c).length ≤ 259 := by
  unfold quesB
  split
  · rename_i h
    have := ((mayL_iff _).1 h.2).2
    simp [numB_length, lbSize_bytes]; omega
  · simp
theorem Try.infoQuery17 : (Try.prog.info? 67).map (·.size) = some 17 := by kernel_rfl
theorem wpList_load_query {ops : Array Oper} {rest : List Oper} {op : Oper} {A : Act} {w : World} {Q : Exit → Act → World → Prop} {g : Nat} {h : Hd} {asked : Bool} {a : Option Addr} {n cap : Nat} {t c : Int} {fz : Nat × Nat} (hb : w.heap[g]? = some (.cells (qCells h asked a n cap t c) 67 fz))
    (hgd : op.guard = none) (x : Operand) (ho : op.op = .load 67 x) (hx : A.eval x = .pointer (some ⟨g, 0, none⟩))
    (hk : wpList Try.prog ops Q rest (A.put op.dst (.agg (qCells h asked a n cap t c))) w) : wpList Try.prog ops Q (op :: rest) A w :=
  wpList_load_mid hgd 67 x ho g 0 hx (qCells h asked a n cap t c).toList _ (blk_range hb) Try.underlying67 rfl Try.infoQuery17 (by simpa using hk)

set_option maxHeartbeats 2000000 in
set_option maxRecDepth 100000 in
theorem ques1_any {B g s : Nat} {S : Nat → Prop} {w : World} {b : Nat} {enc nb : List UInt8} {t c : Int} (hw : WrE B S w b (nb ++ (numB 2 t ++ numB 2 c)) enc) (hl : enc.length ≤ 1000000)
    (y1 : w.cell? ⟨s, 0, none⟩ = some (.string ⟨nb.toArray⟩)) (y2 : w.cell? ⟨g, 15, none⟩ = some (.int .u16 t)) (y3 : w.cell? ⟨g, 16, none⟩ = some (.int .u16 c)) (hS : ¬ S g) (ht : 0 ≤ t ∧ t ≤ 65535) (hc : 0 ≤ c ∧ c ≤ 65535) :
    Calls Try.prog 108 #[.pointer (some ⟨b, 0, none⟩), .pointer (some ⟨s, 0, none⟩), .pointer (some ⟨g, 0, none⟩)] w fun e w' => e = .returned (.tuple #[]) ∧ WrE B S w' b [] enc ∧ Fr S w w' := by
  have C1 := Lib.hid (WrE.raw (s := ⟨nb.toArray⟩) (rest := numB 2 t ++ numB 2 c) (by simpa using hw) hl)
  obtain ⟨t0, t1⟩ := ht
  obtain ⟨c0, c1⟩ := hc
  clear hw
  go_enter Try.func108, Try.ntmps108
  go_wp2_with fail
  refine C1.out.mono ?_
  rintro e w1 ⟨rfl, h1, f1⟩
  have H1 := Lib.hid h1
  have F1 := Lib.hid f1
  have x2 := f1.cell y2 hS
  have x3 := f1.cell y3 hS
  clear h1 f1 C1 y1 y2 y3
  go_wp2_with fail
  refine (WrE.num (k := 2) H1.out hl rfl (by decide) (by decide) (by omega) (by omega)).mono ?_
  rintro e w2 ⟨rfl, h2, f2⟩
  have H2 : Hid (WrE B S w2 b (numB 2 c ++ []) enc) := Lib.hid (by rw [List.append_nil]; exact h2)
  have F2 := Lib.hid (F1.out.trans f2 (fun k h => .inl h))
  have z3 := f2.cell x3 hS
  clear h2 f2 x2 x3 H1 F1
  go_wp2_with fail
  refine (WrE.num (k := 2) H2.out hl rfl (by decide) (by decide) (by omega) (by omega)).mono ?_
  rintro e w3 ⟨rfl, h3, f3⟩
  have H3 := Lib.hid h3
  have F3 := Lib.hid (F2.out.trans f3 (fun k h => .inl h))
  clear h3 f3 H2 F2
  go_wp2_with fail
  go_end0
  exact ⟨rfl, H3.out, F3.out⟩

def QuesEnd (asked : Bool) (name : List Lbl) (t c : Int) (w : World) (e : Ending) (w' : World) : Prop :=
  e = .returned (.tuple #[.string ⟨(quesB asked name t c).toArray⟩, .int .i64 (quesCode asked name)]) ∧ Gr w w'

set_option maxHeartbeats 4000000 in
set_option maxRecDepth 100000 in
theorem ques_any (h : Hd) (asked : Bool) (a : Option Addr) (cap : Nat) (name : List Lbl) (t c : Int) (W : World) (hn : SlA W a name.length cap (strVs name)) (ht : 0 ≤ t ∧ t ≤ 65535) (hc : 0 ≤ c ∧ c ≤ 65535) :
    Calls Try.prog 71 #[.agg (qCells h asked a name.length cap t c)] W (QuesEnd asked name t c W) := by
  have hle := hn.le
  have hmx := hn.max
  have hmf := makeFunc_run
  obtain ⟨w1, hw1⟩ : ∃ w1, w1 = W.alloc (.cells (qCells h asked a name.length cap t c) 67) := ⟨_, rfl⟩
  have f1 : Gr W w1 := by rw [hw1]; exact (Fr.refl _ _).alloc _
  have hb1 : w1.heap[W.heap.size]? = some (.cells (qCells h asked a name.length cap t c) 67 (0, 0)) := by rw [hw1, heap_alloc_if, if_pos rfl]
  have hlt : W.heap.size < w1.heap.size := by rw [hw1]; simp
  have BX := Lib.hid (Bx.of_block hb1)
  have F1 := Lib.hid f1
  have HW1 := Lib.hid hw1
  have y13 := BX.out 13 _ rfl
  have y14 := BX.out 14 _ rfl
  unfold QuesEnd
  cases asked
  · clear f1 hb1 hn BX hw1
    go_enter Try.func71, Try.ntmps71
    go_upto_region 1 with fail
    rw [← HW1.out]
    clear HW1
    go_wp2_with fail
    go_ret2
    exact ⟨by simp [quesB, quesCode], F1.out⟩
  have C1 := Lib.hid (nmEncode_any a cap name w1 (hn.keep f1 (fun _ _ h => h)))
  unfold NmAdd at C1
  cases hm : mayL name
  · rw [hm] at C1
    simp only [Bool.false_eq_true, if_false] at C1
    have HM := Lib.hid hm
    clear f1 hb1 hn BX hw1 hm
    go_enter Try.func71, Try.ntmps71
    go_upto_region 1 with fail
    rw [← HW1.out]
    clear HW1
    go_wp2_with fail
    refine C1.out.mono ?_
    rintro e w2 ⟨rfl, f2⟩
    have F2 := Lib.hid (Gr.trans F1.out f2)
    clear f2 C1
    go_wp2_with fail
    go_ret2
    exact ⟨by simp [quesB, quesCode, HM.out], F2.out.alloc _⟩
  · rw [hm] at C1
    simp only [if_true, List.nil_append] at C1
    have hq : quesB true name t c = (bytesL name ++ [0]) ++ (numB 2 t ++ numB 2 c) := by unfold quesB; rw [hm]; simp
    have hq2 : quesCode true name = 0 := by unfold quesCode; rw [hm]; simp
    have hql := quesB_le true name t c
    rw [hq] at hql ⊢
    rw [hq2]
    have C2 : Hid (∀ w s, Gr w1 w → w.cell? ⟨s, 0, none⟩ = some (.string ⟨(bytesL name ++ [0]).toArray⟩) → Calls Try.prog 47 #[.func (.func 108) #[] #[.pointer (some ⟨s, 0, none⟩), .pointer (some ⟨W.heap.size, 0, none⟩)]] w fun e w' =>
        e = .returned (.tuple #[.string ⟨((bytesL name ++ [0]) ++ (numB 2 t ++ numB 2 c)).toArray⟩, .int .i64 0]) ∧ Gr w w') := Lib.hid (by
      intro w s fw hs
      have hg := fw.size
      exact packWrite_ok 108 #[.pointer (some ⟨s, 0, none⟩), .pointer (some ⟨W.heap.size, 0, none⟩)] w _ (fun a w => enters_fn Try.func108 (by kernel_rfl) rfl _ w) (fun w2 f2 h2 =>
        ques1_any h2 (by omega) (f2.cell hs (fun h => h)) (f2.cell (fw.cell (BX.out 15 _ rfl) (fun h => h)) (fun h => h)) (f2.cell (fw.cell (BX.out 16 _ rfl) (fun h => h)) (fun h => h)) (by unfold wS; omega) ht hc))
    clear f1 hb1 hn BX hw1 hm hq hq2 hql
    generalize ((bytesL name ++ [0]) ++ (numB 2 t ++ numB 2 c)) = out at *
    generalize bytesL name ++ [0] = nb at *
    go_enter Try.func71, Try.ntmps71
    go_upto_region 1 with fail
    rw [← HW1.out]
    clear HW1
    go_wp2_with fail
    refine C1.out.mono ?_
    rintro e w2 ⟨rfl, f2⟩
    have F2 := Lib.hid f2
    obtain ⟨w3, hw3⟩ : ∃ w3, w3 = w2.alloc (.cells #[.string ⟨nb.toArray⟩] 9) := ⟨_, rfl⟩
    have f3 : Gr w2 w3 := by rw [hw3]; exact (Fr.refl _ _).alloc _
    have C3 := Lib.hid (C2.out w3 w2.heap.size (Gr.trans f2 f3) (by rw [World.cell?, hw3, heap_alloc_if, if_pos rfl]; rfl))
    have F3 := Lib.hid (Gr.trans F1.out (Gr.trans f2 f3))
    have HW3 := Lib.hid hw3
    clear f2 f3 hw3 C1 C2 y13 y14 F1 F2
    go_wp2_with fail
    rw [← HW3.out]
    clear HW3
    refine C3.out.mono ?_
    rintro e w4 ⟨rfl, f4⟩
    have F4 := Lib.hid (Gr.trans F3.out f4)
    clear f4 C3
    go_wp2_with fail
    go_ret2
    exact ⟨rfl, F4.out⟩

/-- what is gathered of a reply: the body, how many records it has, whether it is cut -/
structure BSt where
  body : List UInt8
  n : Nat
  cut : Bool
def bldStep (st : BSt) (r : RRec) : BSt := if st.cut = true ∨ 512 < 12 + st.body.length + r.enc.length then { st with cut := true } else ⟨st.body ++ r.enc, st.n + 1, false⟩
def bldFold (q : List UInt8) (l : List RRec) : BSt := l.foldl bldStep ⟨q, 0, false⟩
theorem bldFold_snoc (q : List UInt8) (l : List RRec) (r : RRec) : bldFold q (l ++ [r]) = bldStep (bldFold q l) r := by
  unfold bldFold; rw [List.foldl_append]; rfl
theorem bldStep_le (st : BSt) (r : RRec) (h : st.body.length ≤ 500 ∧ st.n ≤ st.body.length) : (bldStep st r).body.length ≤ 500 ∧ (bldStep st r).n ≤ (bldStep st r).body.length := by
  unfold bldStep
  split
  · exact h
  · rename_i h1
    have := r.enc_length
    simp only [List.length_append]
    omega
theorem bldFold_le (q : List UInt8) (hq : q.length ≤ 500) (l : List RRec) : (bldFold q l).body.length ≤ 500 ∧ (bldFold q l).n ≤ (bldFold q l).body.length := by
  unfold bldFold
  have : ∀ (l : List RRec) (st : BSt), st.body.length ≤ 500 ∧ st.n ≤ st.body.length → (l.foldl bldStep st).body.length ≤ 500 ∧ (l.foldl bldStep st).n ≤ (l.foldl bldStep st).body.length := by
    intro l
    induction l with
    | nil => intro st h; exact h
    | cons r l ih => intro st h; exact ih _ (bldStep_le st r h)
  exact this l _ ⟨hq, by simp⟩
def bldHd (h : Hd) (asked : Bool) (code : Int) (n : Nat) (cut : Bool) : Hd :=
  { id := h.id, resp := true, op := h.op, auth := (code == 0) || (code == 3), trunc := cut, des := h.des, avail := false, zero := 0, code := code, c0 := if asked = true then 1 else 0, c1 := n, c2 := 0, c3 := 0 }
/-- the first record that has no bytes -/
def rbad (l : List RRec) : Option RRec := l.find? (fun r => r.code != 0)
/-- a reply, how many records it has, the error -/
def bldOut (h : Hd) (asked : Bool) (name : List Lbl) (t c code : Int) (l : List RRec) : List UInt8 × Nat × Int :=
  if code < 0 ∨ 15 < code ∨ 15 < h.op then ([], 0, 11) else
  if asked = false ∧ l ≠ [] then ([], 0, 8) else
  if quesCode asked name ≠ 0 then ([], 0, 9) else
  match rbad l with
  | some r => ([], 0, r.code)
  | none => ((bldHd h asked code (bldFold (quesB asked name t c) l).n (bldFold (quesB asked name t c) l).cut).bytes ++ (bldFold (quesB asked name t c) l).body, (bldFold (quesB asked name t c) l).n, 0)
theorem rbad_none {l : List RRec} (h : ∀ r ∈ l, r.code = 0) : rbad l = none := by
  unfold rbad
  rw [List.find?_eq_none]
  intro r hr
  rw [h r hr]; simp
theorem rbad_some {l : List RRec} {k : Nat} (hk : k < l.length) (h : ∀ r ∈ l.take k, r.code = 0) (hb : l[k].code ≠ 0) : rbad l = some l[k] := by
  have e : l = l.take k ++ (l[k] :: l.drop (k + 1)) := by rw [← List.drop_eq_getElem_cons hk, List.take_append_drop]
  have e2 : (l.take k ++ (l[k] :: l.drop (k + 1))).find? (fun r => r.code != 0) = some l[k] := by
    have := rbad_none h
    unfold rbad at this
    rw [List.find?_append, this, Option.none_or, List.find?_cons_of_pos (by simpa using hb)]
  exact (congrArg (List.find? fun r => r.code != 0) e).trans e2
theorem bldHd_fits (h : Hd) (hf : h.Fits) (asked : Bool) (code : Int) (n : Nat) (cut : Bool) (hc : 0 ≤ code ∧ code ≤ 15) (hn : n ≤ 65535) : (bldHd h asked code n cut).Fits := by
  have a0 := hf.id
  have a1 := hf.op
  constructor <;> simp only [bldHd] <;> (try split) <;> omega
theorem bldHd_ok (h : Hd) (asked : Bool) (code : Int) (n : Nat) (cut : Bool) (hc : code ≤ 15) (ho : h.op ≤ 15) : ¬ (bldHd h asked code n cut).bad := by
  unfold Hd.bad bldHd
  simp only; omega
end Go.Proofs.Ytkclgemkeifbaaa
