/-
  Package reply: the bytes of records and of questions.
-/
import Derived.Test.YtkclgemkeifbaaaQAsk
import Derived.Test.YtkclgemkeifbaaaBlk
namespace Go.Proofs.Ytkclgemkeifbaaa
section
open Go.RowKit Go.Proofs

structure RRec where
  typ : Int
  ttl : Int
  a0 : Int
  a1 : Int
  a2 : Int
  a3 : Int
  prio : Int
  weight : Int
  port : Int
  target : List Lbl

structure RRec.Fits (r : RRec) : Prop where
  typ : 0 ≤ r.typ ∧ r.typ ≤ 65535
  ttl : 0 ≤ r.ttl ∧ r.ttl ≤ 4294967295
  a0 : 0 ≤ r.a0 ∧ r.a0 ≤ 255
  a1 : 0 ≤ r.a1 ∧ r.a1 ≤ 255
  a2 : 0 ≤ r.a2 ∧ r.a2 ≤ 255
  a3 : 0 ≤ r.a3 ∧ r.a3 ≤ 255
  prio : 0 ≤ r.prio ∧ r.prio ≤ 65535
  weight : 0 ≤ r.weight ∧ r.weight ≤ 65535
  port : 0 ≤ r.port ∧ r.port ≤ 65535

/-- a record's cells; the target lies at a -/
def RRec.cells (r : RRec) (a : Option Addr) (c : Nat) : List Value := [.int .u16 r.typ, .int .u32 r.ttl, .int .u8 r.a0, .int .u8 r.a1, .int .u8 r.a2, .int .u8 r.a3, .int .u16 r.prio, .int .u16 r.weight, .int .u16 r.port, .slice a r.target.length c]
def RRec.refCells (r : RRec) (a : Option Addr) (c : Nat) : List Value := [.int .i64 r.typ, .int .u32 r.ttl, .int .u8 r.a0, .int .u8 r.a1, .int .u8 r.a2, .int .u8 r.a3, .int .u16 r.prio, .int .u16 r.weight, .int .u16 r.port, .slice a r.target.length c]
abbrev RRec.arr (r : RRec) (a : Option Addr) (c : Nat) : Array Value := #[.int .u16 r.typ, .int .u32 r.ttl, .int .u8 r.a0, .int .u8 r.a1, .int .u8 r.a2, .int .u8 r.a3, .int .u16 r.prio, .int .u16 r.weight, .int .u16 r.port, .slice a r.target.length c]
abbrev RRec.refArr (r : RRec) (a : Option Addr) (c : Nat) : Array Value := #[.int .i64 r.typ, .int .u32 r.ttl, .int .u8 r.a0, .int .u8 r.a1, .int .u8 r.a2, .int .u8 r.a3, .int .u16 r.prio, .int .u16 r.weight, .int .u16 r.port, .slice a r.target.length c]

def by1 (n : Int) : UInt8 := UInt8.ofNat n.toNat
theorem by1_nat (n : Int) (h : 0 ≤ n ∧ n ≤ 255) : ((by1 n).toNat : Int) = n := by
  unfold by1; rw [UInt8.toNat_ofNat']; omega
def RRec.addr (r : RRec) : List UInt8 := [by1 r.a0, by1 r.a1, by1 r.a2, by1 r.a3]
def RRec.serv (r : RRec) : List UInt8 := numB 2 r.prio ++ (numB 2 r.weight ++ (numB 2 r.port ++ (bytesL r.target ++ [0])))
def RRec.data (r : RRec) : List UInt8 := if r.typ = 1 then r.addr else r.serv
def RRec.code (r : RRec) : Int := if r.typ = 1 then 0 else if r.typ = 33 then (if mayL r.target = true then 0 else 9) else 1
def RRec.enc (r : RRec) : List UInt8 := numB 2 49164 ++ (numB 2 r.typ ++ (numB 2 1 ++ (numB 4 r.ttl ++ (numB 2 r.data.length ++ r.data))))
def RRec.out (r : RRec) : List UInt8 := if r.code = 0 then r.enc else []

theorem RRec.data_le (r : RRec) (h : r.code = 0) : r.data.length ≤ 261 := by
  unfold RRec.data
  unfold RRec.code at h
  split
  · simp [RRec.addr]
  · rename_i h1
    rw [if_neg h1] at h
    split at h
    · split at h
      · rename_i hm
        have := ((mayL_iff _).1 hm).2
        simp [RRec.serv, numB_length, lbSize_bytes]; omega
      · simp at h
    · simp at h
theorem RRec.enc_length (r : RRec) : r.enc.length = 12 + r.data.length := by
  simp [RRec.enc, numB_length]; omega
theorem RRec.enc_le (r : RRec) (h : r.code = 0) : r.enc.length ≤ 273 := by
  rw [RRec.enc_length]; have := r.data_le h; omega
theorem RRec.out_le (r : RRec) : r.out.length ≤ 273 := by
  unfold RRec.out
  split
  · rename_i h; exact r.enc_le h
  · simp

/-- the writer is kept where memory only grows -/
theorem WrE.grow {B : Nat} {S : Nat → Prop} {w w' : World} {b : Nat} {rest enc : List UInt8} (h : WrE B S w b rest enc) (f : Gr w w') : WrE B S w' b rest enc := by
  obtain ⟨bs, p, v, h1, h2⟩ := h
  exact ⟨bs, p, v, h1.keep f (fun _ _ h => h.elim) (fun _ _ h => h.elim), h2⟩
theorem WrE.start {W w : World} {enc : List UInt8} (h : WrAt W.heap.size (wS W.heap.size) w (W.heap.size + 1) (.pointer none) (.slice none 0 0) []) : WrE W.heap.size (wS W.heap.size) w (W.heap.size + 1) enc enc := ⟨[], _, _, h, rfl⟩

/-- pack.Write of a call that writes all of enc -/
theorem packWrite_ok (F : FuncId) (cap : Array Value) (W : World) (enc : List UInt8) (hent : ∀ a w, (callFunc F (#[a] ++ cap)).run Try.prog w = .ok (.enter F (#[a] ++ cap)) w)
    (hc : ∀ w, Gr W w → WrE W.heap.size (wS W.heap.size) w (W.heap.size + 1) enc enc →
      Calls Try.prog F (#[.pointer (some ⟨W.heap.size + 1, 0, none⟩)] ++ cap) w fun e w' => e = .returned (.tuple #[]) ∧ WrE W.heap.size (wS W.heap.size) w' (W.heap.size + 1) [] enc ∧ Fr (wS W.heap.size) w w') :
    Calls Try.prog 47 #[.func (.func F) #[] cap] W fun e w' => e = .returned (.tuple #[.string ⟨enc.toArray⟩, .int .i64 0]) ∧ Gr W w' := by
  refine (packWrite_any F cap W (fun _ => False) (fun x _ => x = .ok enc) hent (fun _ h => h.elim) (fun w2 f2 h2 => (hc w2 f2 (WrE.start h2)).mono ?_)).mono ?_
  · rintro e w' ⟨rfl, h3, f3⟩
    obtain ⟨bs, pp, v, h4, h5⟩ := h3
    rw [List.append_nil] at h5
    subst h5
    exact ⟨f3.mono (fun k _ h => .inl h), .ok _, .ok _ _ _ h4, rfl⟩
  · rintro e w' ⟨w0, x, rfl, rfl, _, _, f⟩
    exact ⟨rfl, Fr.mono f (fun k hk h => by rcases h with h | h; omega; exact h.elim)⟩
/-- pack.Write of a call that is refused -/
theorem packWrite_ref (F : FuncId) (cap : Array Value) (W : World) (c : Int) (hc0 : c ≠ 0) (hent : ∀ a w, (callFunc F (#[a] ++ cap)).run Try.prog w = .ok (.enter F (#[a] ++ cap)) w)
    (hc : ∀ w, Gr W w → WrE W.heap.size (wS W.heap.size) w (W.heap.size + 1) [] [] →
      Calls Try.prog F (#[.pointer (some ⟨W.heap.size + 1, 0, none⟩)] ++ cap) w fun e w' => e = .panicked [{ v := refused c, recovered := false }] ∧ Fr (wS W.heap.size) w w') :
    Calls Try.prog 47 #[.func (.func F) #[] cap] W fun e w' => e = .returned (.tuple #[.string ⟨#[]⟩, .int .i64 c]) ∧ Gr W w' := by
  refine (packWrite_any F cap W (fun _ => False) (fun x _ => x = .ref c) hent (fun _ h => h.elim) (fun w2 f2 h2 => (hc w2 f2 (WrE.start h2)).mono ?_)).mono ?_
  · rintro e w' ⟨rfl, f3⟩
    exact ⟨f3.mono (fun k _ h => .inl h), .ref c, .ref c hc0, rfl⟩
  · rintro e w' ⟨w0, x, rfl, rfl, _, _, f⟩
    exact ⟨rfl, Fr.mono f (fun k hk h => by rcases h with h | h; omega; exact h.elim)⟩
end
section
open Go.RowKit Go.Proofs

theorem conv_addr (w : World) (g : Nat) (r : RRec) (hf : r.Fits) (a : Option Addr) (c : Nat) (h : Bx w g (r.cells a c)) :
    (convert 47 9 (.slice (some ⟨g, 2, none⟩) 4 4)).run Try.prog w = .ok (.string ⟨r.addr.toArray⟩) w := by
  refine run_convert_bytes_back (P := Try.prog) w 47 9 5 ⟨g, 2, none⟩ 4 r.addr Try.underlying47 Try.underlying5 Try.underlying9 (fun j hj => ?_)
  have h2 := h 2 _ rfl
  have h3 := h 3 _ rfl
  have h4 := h 4 _ rfl
  have h5 := h 5 _ rfl
  have b0 := by1_nat _ hf.a0
  have b1 := by1_nat _ hf.a1
  have b2 := by1_nat _ hf.a2
  have b3 := by1_nat _ hf.a3
  match j, hj with
  | 0, _ => rw [Addr.add_lit, h2]; simp only [RRec.addr, List.getElem_cons_zero]; rw [b0]
  | 1, _ => rw [Addr.add_lit, h3]; simp only [RRec.addr, List.getElem_cons_zero, List.getElem_cons_succ]; rw [b1]
  | 2, _ => rw [Addr.add_lit, h4]; simp only [RRec.addr, List.getElem_cons_zero, List.getElem_cons_succ]; rw [b2]
  | 3, _ => rw [Addr.add_lit, h5]; simp only [RRec.addr, List.getElem_cons_zero, List.getElem_cons_succ]; rw [b3]

set_option maxHeartbeats 2000000 in
set_option maxRecDepth 100000 in
theorem data1_ok {B g : Nat} {S : Nat → Prop} {w : World} {b : Nat} {enc : List UInt8} (r : RRec) (a : Option Addr) (c : Nat) (hw : WrE B S w b r.data enc) (hl : enc.length ≤ 1000000) (hx : Bx w g (r.cells a c))
    (ht : SlA w a r.target.length c (strVs r.target)) (hf : r.Fits) (hc : r.code = 0) :
    Calls Try.prog 124 #[.pointer (some ⟨b, 0, none⟩), .pointer (some ⟨g, 0, none⟩)] w fun e w' => e = .returned (.tuple #[]) ∧ WrE B S w' b [] enc ∧ Fr S w w' := by
  have y0 := hx 0 _ rfl
  have hle := ht.le
  have hmx := ht.max
  by_cases h1 : r.typ = 1
  · rw [h1] at y0
    have hd : r.data = r.addr := by unfold RRec.data; rw [if_pos h1]
    rw [hd] at hw
    have hcv := conv_addr w g r hf a c hx
    have C1 := Lib.hid (WrE.raw (s := ⟨r.addr.toArray⟩) (rest := []) (by simpa using hw) hl)
    clear hw hc hx ht hd h1
    generalize (ByteArray.mk r.addr.toArray) = sa at *
    go_enter Try.func124, Try.ntmps124
    go_wp2_with fail
    refine C1.out.mono ?_
    rintro e w1 ⟨rfl, h1, f1⟩
    have H1 := Lib.hid h1
    have F1 := Lib.hid f1
    clear h1 f1 C1 hcv
    go_wp2_with fail
    go_end0
    exact ⟨rfl, H1.out, F1.out⟩
  · have h33 : r.typ = 33 := by
      unfold RRec.code at hc
      rw [if_neg h1] at hc
      split at hc
      · assumption
      · simp at hc
    have hm : mayL r.target = true := by
      unfold RRec.code at hc
      rw [if_neg h1, if_pos h33] at hc
      split at hc
      · assumption
      · simp at hc
    rw [h33] at y0
    have hd : r.data = r.serv := by unfold RRec.data; rw [if_neg h1]
    rw [hd] at hw
    have C1 := Lib.hid (nmEncode_any a c r.target w ht)
    unfold NmAdd at C1
    rw [hm] at C1
    simp only [if_true, List.nil_append] at C1
    obtain ⟨⟨p0, p1⟩, ⟨q0, q1⟩, ⟨o0, o1⟩⟩ := (⟨hf.prio, hf.weight, hf.port⟩ : _ ∧ _ ∧ _)
    have H := Lib.hid hw
    unfold RRec.serv at H
    have HX := Lib.hid hx
    have y9 := hx 9 _ rfl
    clear hw hc hx ht hd h1 h33 hm hf
    generalize bytesL r.target ++ [0] = T at *
    go_enter Try.func124, Try.ntmps124
    go_wp2_with fail
    refine C1.out.mono ?_
    rintro e w1 ⟨rfl, f1⟩
    have H1 := Lib.hid (H.out.grow f1)
    have y6 := f1.cell (HX.out 6 _ rfl) (fun h => h)
    have y7 := f1.cell (HX.out 7 _ rfl) (fun h => h)
    have y8 := f1.cell (HX.out 8 _ rfl) (fun h => h)
    have F1 := Lib.hid (Fr.mono (T := S) f1 (fun _ _ h => h.elim))
    clear f1 C1 H HX y0 y9
    have ix0 : ∀ (a b c : Value) (w : World), (Instr.index 208 (.agg #[a, b, c]) (.int .i64 0)).run Try.prog w = .ok a w := fun _ _ _ _ => by kernel_rfl
    have ix1 : ∀ (a b c : Value) (w : World), (Instr.index 208 (.agg #[a, b, c]) (.int .i64 1)).run Try.prog w = .ok b w := fun _ _ _ _ => by kernel_rfl
    have ix2 : ∀ (a b c : Value) (w : World), (Instr.index 208 (.agg #[a, b, c]) (.int .i64 2)).run Try.prog w = .ok c w := fun _ _ _ _ => by kernel_rfl
    go_wp2_with fail
    go_loopw [6, 36] (fun _ iv wr => ∃ k : Nat, iv = .int .i64 k ∧ k ≤ 3 ∧ WrE B S wr b (([r.prio, r.weight, r.port].drop k).flatMap (numB 2) ++ T) enc ∧ Fr S w wr) (fun _ iv _ => 3 - (intOf iv).toNat)
    case atStart => exact ⟨0, rfl, by omega, by simpa using H1.out, F1.out⟩
    case round =>
      clear H1 F1
      obtain ⟨k, rfl, hk, h1, f1⟩ := hrel
      have F1 := Lib.hid f1
      clear f1
      match k, hk with
      | 0, _ =>
        have H2 := Lib.hid h1
        clear h1
        go_wp2_with fail
        refine (WrE.num (k := 2) H2.out hl rfl (by decide) (by decide) (by omega) (by omega)).mono ?_
        rintro e w2 ⟨rfl, h2, f2⟩
        have H3 := Lib.hid h2
        have F2 := Lib.hid (F1.out.trans f2 (fun k h => .inl h))
        clear h2 f2
        go_wp2_with fail
        go_roundw
        case rel => exact ⟨1, rfl, by omega, H3.out, F2.out⟩
        case measure => simp [intOf]
      | 1, _ =>
        have H2 := Lib.hid h1
        clear h1
        go_wp2_with fail
        refine (WrE.num (k := 2) H2.out hl rfl (by decide) (by decide) (by omega) (by omega)).mono ?_
        rintro e w2 ⟨rfl, h2, f2⟩
        have H3 := Lib.hid h2
        have F2 := Lib.hid (F1.out.trans f2 (fun k h => .inl h))
        clear h2 f2
        go_wp2_with fail
        go_roundw
        case rel => exact ⟨2, rfl, by omega, H3.out, F2.out⟩
        case measure => simp [intOf]
      | 2, _ =>
        have H2 := Lib.hid h1
        clear h1
        go_wp2_with fail
        refine (WrE.num (k := 2) H2.out hl rfl (by decide) (by decide) (by omega) (by omega)).mono ?_
        rintro e w2 ⟨rfl, h2, f2⟩
        have H3 := Lib.hid h2
        have F2 := Lib.hid (F1.out.trans f2 (fun k h => .inl h))
        clear h2 f2
        go_wp2_with fail
        go_roundw
        case rel => exact ⟨3, rfl, by omega, H3.out, F2.out⟩
        case measure => simp [intOf]
      | 3, _ =>
        have C2 := Lib.hid (WrE.raw (s := ⟨T.toArray⟩) (rest := []) (by simpa using h1) hl)
        clear h1
        go_wp2_with fail
        refine C2.out.mono ?_
        rintro e w2 ⟨rfl, h2, f2⟩
        have H3 := Lib.hid h2
        have F2 := Lib.hid (F1.out.trans f2 (fun k h => .inl h))
        clear h2 f2
        go_wp2_with fail
        go_end0
        exact ⟨rfl, H3.out, F2.out⟩

set_option maxHeartbeats 2000000 in
set_option maxRecDepth 100000 in
theorem data1_bad {g : Nat} {w : World} {b : Nat} (r : RRec) (a : Option Addr) (c : Nat) (hx : Bx w g (r.cells a c))
    (ht : SlA w a r.target.length c (strVs r.target)) (hc : r.code ≠ 0) :
    Calls Try.prog 124 #[.pointer (some ⟨b, 0, none⟩), .pointer (some ⟨g, 0, none⟩)] w fun e w' => e = .panicked [{ v := refused r.code, recovered := false }] ∧ Gr w w' := by
  have y0 := hx 0 _ rfl
  have hle := ht.le
  have hmx := ht.max
  have h1 : r.typ ≠ 1 := by
    intro h; apply hc; unfold RRec.code; rw [if_pos h]
  by_cases h33 : r.typ = 33
  · have hm : mayL r.target = false := by
      unfold RRec.code at hc
      rw [if_neg h1, if_pos h33] at hc
      cases hm : mayL r.target
      · rfl
      · rw [hm] at hc; simp at hc
    have hcode : r.code = 9 := by unfold RRec.code; rw [if_neg h1, if_pos h33, hm]; rfl
    rw [hcode]
    rw [h33] at y0
    have C1 := Lib.hid (nmEncode_any a c r.target w ht)
    unfold NmAdd at C1
    rw [hm] at C1
    simp only [Bool.false_eq_true, if_false] at C1
    have y9 := hx 9 _ rfl
    clear hcode hm h33 h1 hc ht hx
    go_enter Try.func124, Try.ntmps124
    go_wp2_with fail
    refine C1.out.mono ?_
    rintro e w1 ⟨rfl, f1⟩
    have F1 := Lib.hid f1
    clear f1 C1
    go_wp2_with fail
    refine (refuse_any 9 _).mono ?_
    rintro e w2 ⟨rfl, rfl⟩
    go_wp2_with fail
    exact ⟨rfl, rfl, F1.out⟩
  · have hcode : r.code = 1 := by unfold RRec.code; rw [if_neg h1, if_neg h33]
    rw [hcode]
    have e1 : (r.typ == 1) = false := by simpa using h1
    have e2 : (r.typ == 33) = false := by simpa using h33
    clear hcode hc ht hx h1 h33
    go_enter Try.func124, Try.ntmps124
    go_wp2_with fail
    refine (refuse_any 1 _).mono ?_
    rintro e w2 ⟨rfl, rfl⟩
    go_wp2_with fail
    exact ⟨rfl, rfl, Fr.refl _ _⟩
end
section
open Go.RowKit Go.Proofs

theorem Bx.of_block {w : World} {q : Nat} {cs : Array Value} {e : TypeId} {fr : Nat × Nat} (hb : w.heap[q]? = some (.cells cs e fr)) : Bx w q cs.toList := by
  intro j v hj
  rw [Lib.cell_of_heap hb]
  simpa using hj
theorem makeFunc_run (fn : Fn) (first cap : Array Value) (w : World) : (Instr.makeFunc fn first cap).run Try.prog w = .ok (.func fn first cap) w := rfl
theorem Try.infoRRec : (Try.prog.info? 110).map (fun i => i.size) = some 10 := by kernel_rfl
theorem load_rrec {w : World} {g : Nat} (r : RRec) (a : Option Addr) (c : Nat) {fz : Nat × Nat} (hb : w.heap[g]? = some (.cells (r.arr a c) 110 fz)) :
    (loadVar 110 ⟨g, 0, none⟩).run Try.prog w = .ok (.agg (r.arr a c)) w :=
  run_loadVar_mid w g 0 110 (r.cells a c) _ (blk_range hb) Try.underlying110 rfl Try.infoRRec

theorem wpList_load_rrec {ops : Array Oper} {rest : List Oper} {op : Oper} {A : Act} {w : World} {Q : Exit → Act → World → Prop} {g : Nat} {r : RRec} {a : Option Addr} {c : Nat} {fz : Nat × Nat} (hb : w.heap[g]? = some (.cells (r.arr a c) 110 fz))
    (hgd : op.guard = none) (x : Operand) (ho : op.op = .load 110 x) (hx : A.eval x = .pointer (some ⟨g, 0, none⟩))
    (h : wpList Try.prog ops Q rest (A.put op.dst (.agg (r.arr a c))) w) : wpList Try.prog ops Q (op :: rest) A w :=
  wpList_load_mid hgd 110 x ho g 0 hx (r.cells a c) _ (blk_range hb) Try.underlying110 rfl Try.infoRRec h

/-- what data does -/
def DataEnd (r : RRec) (w : World) (e : Ending) (w' : World) : Prop :=
  e = (if r.code = 0 then .returned (.string ⟨r.data.toArray⟩) else .panicked [{ v := refused r.code, recovered := false }]) ∧ Gr w w'

set_option maxHeartbeats 2000000 in
set_option maxRecDepth 100000 in
theorem data_any (r : RRec) (a : Option Addr) (c : Nat) (w : World) (ht : SlA w a r.target.length c (strVs r.target)) (hf : r.Fits) :
    Calls Try.prog 110 #[.agg (r.arr a c)] w (DataEnd r w) := by
  have hle := ht.le
  have hmx := ht.max
  obtain ⟨w1, hw1⟩ : ∃ w1, w1 = w.alloc (.cells (r.arr a c) 110) := ⟨_, rfl⟩
  have f1 : Gr w w1 := by rw [hw1]; exact (Fr.refl _ _).alloc _
  have hx1 : Bx w1 w.heap.size (r.cells a c) := by rw [hw1]; exact Bx.new w (r.arr a c) 110
  have ht1 := ht.keep f1 (fun _ _ h => h)
  have hmf := makeFunc_run
  have hlt : w.heap.size < w1.heap.size := by rw [hw1]; simp
  unfold DataEnd
  by_cases hc : r.code = 0
  · rw [if_pos hc]
    have hdl := r.data_le hc
    have C1 := Lib.hid (packWrite_ok 124 #[.pointer (some ⟨w.heap.size, 0, none⟩)] w1 r.data (fun a w => enters_fn Try.func124 (by kernel_rfl) rfl _ w) (fun w2 f2 h2 =>
      data1_ok r a c h2 (by omega) (hx1.keep f2 (fun h => h)) (ht1.keep f2 (fun _ _ h => h)) hf hc))
    have F1 := Lib.hid f1
    have HW1 := Lib.hid hw1
    clear ht hf hc f1 hx1 ht1 hw1 hdl
    generalize r.data = d at *
    go_enter Try.func110, Try.ntmps110
    go_upto_region 1 with fail
    rw [← HW1.out]
    clear HW1
    go_wp2_with fail
    refine C1.out.mono ?_
    rintro e w2 ⟨rfl, f2⟩
    have F2 := Lib.hid (Gr.trans F1.out f2)
    clear f2
    go_wp2_with fail
    go_ret
    exact ⟨rfl, F2.out⟩
  · rw [if_neg hc]
    have C1 := Lib.hid (packWrite_ref 124 #[.pointer (some ⟨w.heap.size, 0, none⟩)] w1 r.code hc (fun a w => enters_fn Try.func124 (by kernel_rfl) rfl _ w) (fun w2 f2 h2 =>
      (data1_bad r a c (hx1.keep f2 (fun h => h)) (ht1.keep f2 (fun _ _ h => h)) hc).mono (fun e w' h => ⟨h.1, Fr.mono (S := fun _ => False) h.2 (fun _ _ h => h.elim)⟩)))
    have F1 := Lib.hid f1
    have HW1 := Lib.hid hw1
    have hcb : (r.code == 0) = false := by simpa using hc
    have C2 := Lib.hid (refuse_any r.code)
    rw [if_neg hc] at C2
    clear ht hf hc f1 hx1 ht1 hw1
    generalize r.code = k at *
    go_enter Try.func110, Try.ntmps110
    go_upto_region 1 with fail
    rw [← HW1.out]
    clear HW1
    go_wp2_with fail
    refine C1.out.mono ?_
    rintro e w2 ⟨rfl, f2⟩
    have F2 := Lib.hid (Gr.trans F1.out f2)
    clear f2
    go_wp2_with fail
    refine (C2.out _).mono ?_
    rintro e w3 ⟨rfl, rfl⟩
    go_wp2_with fail
    exact ⟨rfl, rfl, F2.out⟩

set_option maxHeartbeats 2000000 in
set_option maxRecDepth 100000 in
theorem bytes1_ok {B g : Nat} {S : Nat → Prop} {w : World} {b : Nat} (r : RRec) (a : Option Addr) (c : Nat) (hw : WrE B S w b r.enc r.enc) (hb : w.heap[g]? = some (.cells (r.arr a c) 110 (0, 0)))
    (ht : SlA w a r.target.length c (strVs r.target)) (hS : ¬ S g) (hf : r.Fits) (hc : r.code = 0) :
    Calls Try.prog 109 #[.pointer (some ⟨b, 0, none⟩), .pointer (some ⟨g, 0, none⟩)] w fun e w' => e = .returned (.tuple #[]) ∧ WrE B S w' b [] r.enc ∧ Fr S w w' := by
  have HB := Lib.hid hb
  have hx : Bx w g (r.cells a c) := Bx.of_block hb
  have hl : r.enc.length ≤ 1000000 := by have := r.enc_le hc; omega
  have hdl := r.data_le hc
  have C1 := Lib.hid (data_any r a c w ht hf)
  unfold DataEnd at C1
  rw [if_pos hc] at C1
  have H := Lib.hid hw
  have HX := Lib.hid hx
  obtain ⟨⟨t0, t1⟩, ⟨l0, l1⟩⟩ := (⟨hf.typ, hf.ttl⟩ : _ ∧ _)
  rw [show r.enc = numB 2 49164 ++ (numB 2 r.typ ++ (numB 2 1 ++ (numB 4 r.ttl ++ (numB 2 r.data.length ++ r.data)))) from rfl] at H
  rw [show numB 2 49164 ++ (numB 2 r.typ ++ (numB 2 1 ++ (numB 4 r.ttl ++ (numB 2 r.data.length ++ r.data)))) = r.enc from rfl] at H
  have H0 : Hid (WrE B S w b (numB 2 49164 ++ (numB 2 r.typ ++ (numB 2 1 ++ (numB 4 r.ttl ++ (numB 2 r.data.length ++ r.data))))) r.enc) := Lib.hid H.out
  have hz := mk_size r.data
  clear H hw hx hb ht hf hc
  generalize r.enc = enc at *
  generalize r.data = d at *
  go_enter Try.func109, Try.ntmps109
  go_upto_region 0 with fail
  refine wp_region_lit ?_
  refine wpList_load_rrec HB.out (by rfl) _ (by rfl) (by rfl) ?_
  go_wp2_with fail
  refine C1.out.mono ?_
  rintro e w1 ⟨rfl, f1⟩
  have H1 := Lib.hid (H0.out.grow f1)
  have HX1 := Lib.hid (HX.out.keep f1 (fun h => h))
  have F1 := Lib.hid (Fr.mono (T := S) f1 (fun _ _ h => h.elim))
  clear f1 C1 H0 HX HB
  go_wp2_with fail
  refine (WrE.num (k := 2) H1.out hl rfl (by decide) (by decide) (by omega) (by omega)).mono ?_
  rintro e w2 ⟨rfl, h2, f2⟩
  have H2 := Lib.hid h2
  have HX2 := Lib.hid (HX1.out.keep f2 hS)
  have F2 := Lib.hid (F1.out.trans f2 (fun k h => .inl h))
  have y0 := HX2.out 0 _ rfl
  clear h2 f2 H1 HX1 F1
  go_wp2_with fail
  refine (WrE.num (k := 2) H2.out hl rfl (by decide) (by decide) (by omega) (by omega)).mono ?_
  rintro e w3 ⟨rfl, h3, f3⟩
  have H3 := Lib.hid h3
  have HX3 := Lib.hid (HX2.out.keep f3 hS)
  have F3 := Lib.hid (F2.out.trans f3 (fun k h => .inl h))
  clear h3 f3 H2 HX2 F2 y0
  go_wp2_with fail
  refine (WrE.num (k := 2) H3.out hl rfl (by decide) (by decide) (by omega) (by omega)).mono ?_
  rintro e w4 ⟨rfl, h4, f4⟩
  have H4 := Lib.hid h4
  have HX4 := Lib.hid (HX3.out.keep f4 hS)
  have F4 := Lib.hid (F3.out.trans f4 (fun k h => .inl h))
  have y1 := HX4.out 1 _ rfl
  clear h4 f4 H3 HX3 F3
  go_wp2_with fail
  refine (WrE.num (k := 4) H4.out hl rfl (by decide) (by decide) (by omega) (by omega)).mono ?_
  rintro e w5 ⟨rfl, h5, f5⟩
  have H5 := Lib.hid h5
  have F5 := Lib.hid (F4.out.trans f5 (fun k h => .inl h))
  clear h5 f5 H4 F4 y1 HX4
  go_wp2_with fail
  refine (WrE.num (k := 2) H5.out hl rfl (by decide) (by decide) (by omega) (by omega)).mono ?_
  rintro e w6 ⟨rfl, h6, f6⟩
  have C2 := Lib.hid (WrE.raw (s := ⟨d.toArray⟩) (rest := []) (by simpa using h6) hl)
  have F6 := Lib.hid (F5.out.trans f6 (fun k h => .inl h))
  clear h6 f6 H5 F5
  go_wp2_with fail
  refine C2.out.mono ?_
  rintro e w7 ⟨rfl, h7, f7⟩
  have H7 := Lib.hid h7
  have F7 := Lib.hid (F6.out.trans f7 (fun k h => .inl h))
  clear h7 f7
  go_wp2_with fail
  go_end0
  exact ⟨rfl, H7.out, F7.out⟩

set_option maxHeartbeats 2000000 in
set_option maxRecDepth 100000 in
theorem bytes1_bad {g : Nat} {w : World} {b : Nat} (r : RRec) (a : Option Addr) (c : Nat) (hb : w.heap[g]? = some (.cells (r.arr a c) 110 (0, 0)))
    (ht : SlA w a r.target.length c (strVs r.target)) (hf : r.Fits) (hc : r.code ≠ 0) :
    Calls Try.prog 109 #[.pointer (some ⟨b, 0, none⟩), .pointer (some ⟨g, 0, none⟩)] w fun e w' => e = .panicked [{ v := refused r.code, recovered := false }] ∧ Gr w w' := by
  have HB := Lib.hid hb
  have C1 := Lib.hid (data_any r a c w ht hf)
  unfold DataEnd at C1
  rw [if_neg hc] at C1
  clear hb ht hf
  generalize r.code = k at *
  go_enter Try.func109, Try.ntmps109
  go_upto_region 0 with fail
  refine wp_region_lit ?_
  refine wpList_load_rrec HB.out (by rfl) _ (by rfl) (by rfl) ?_
  go_wp2_with fail
  refine C1.out.mono ?_
  rintro e w1 ⟨rfl, f1⟩
  have F1 := Lib.hid f1
  clear f1
  go_wp2_with fail
  exact ⟨rfl, rfl, F1.out⟩

def BytesEnd (r : RRec) (w : World) (e : Ending) (w' : World) : Prop := e = .returned (.tuple #[.string ⟨r.out.toArray⟩, .int .i64 r.code]) ∧ Gr w w'
theorem bytes_call (r : RRec) (a : Option Addr) (c : Nat) (w w1 : World) (ht : SlA w a r.target.length c (strVs r.target)) (hf : r.Fits) (hw1 : w1 = w.alloc (.cells (r.arr a c) 110)) :
    Calls Try.prog 47 #[.func (.func 109) #[] #[.pointer (some ⟨w.heap.size, 0, none⟩)]] w1 (BytesEnd r w1) := by
  have f1 : Gr w w1 := by rw [hw1]; exact (Fr.refl _ _).alloc _
  have hb1 : w1.heap[w.heap.size]? = some (.cells (r.arr a c) 110 (0, 0)) := by rw [hw1, heap_alloc_if, if_pos rfl]
  have ht1 := ht.keep f1 (fun _ _ h => h)
  have hlt : w.heap.size < w1.heap.size := by rw [hw1]; simp
  unfold BytesEnd RRec.out
  by_cases hc : r.code = 0
  · rw [if_pos hc, hc]
    exact packWrite_ok 109 #[.pointer (some ⟨w.heap.size, 0, none⟩)] w1 r.enc (fun a w => enters_fn Try.func109 (by kernel_rfl) rfl _ w) (fun w2 f2 h2 =>
      bytes1_ok r a c h2 (by rw [f2.block _ hlt (fun h => h)]; exact hb1) (ht1.keep f2 (fun _ _ h => h)) (by unfold wS; omega) hf hc)
  · rw [if_neg hc]
    exact packWrite_ref 109 #[.pointer (some ⟨w.heap.size, 0, none⟩)] w1 r.code hc (fun a w => enters_fn Try.func109 (by kernel_rfl) rfl _ w) (fun w2 f2 h2 =>
      (bytes1_bad r a c (by rw [f2.block _ hlt (fun h => h)]; exact hb1) (ht1.keep f2 (fun _ _ h => h)) hf hc).mono (fun e w' h => ⟨h.1, Fr.mono (S := fun _ => False) h.2 (fun _ _ h => h.elim)⟩))

set_option maxHeartbeats 2000000 in
set_option maxRecDepth 100000 in
theorem bytes_any (r : RRec) (a : Option Addr) (c : Nat) (w : World) (ht : SlA w a r.target.length c (strVs r.target)) (hf : r.Fits) :
    Calls Try.prog 72 #[.agg (r.arr a c)] w (BytesEnd r w) := by
  have hle := ht.le
  have hmx := ht.max
  have hmf := makeFunc_run
  obtain ⟨w1, hw1⟩ : ∃ w1, w1 = w.alloc (.cells (r.arr a c) 110) := ⟨_, rfl⟩
  have C1 := Lib.hid (bytes_call r a c w w1 ht hf hw1)
  have F1 := Lib.hid (show Gr w w1 by rw [hw1]; exact (Fr.refl _ _).alloc _)
  have HW1 := Lib.hid hw1
  clear ht hf hw1
  unfold BytesEnd at C1 ⊢
  generalize r.out = o at *
  generalize r.code = k at *
  go_enter Try.func72, Try.ntmps72
  go_upto_region 1 with fail
  rw [← HW1.out]
  clear HW1
  go_wp2_with fail
  refine C1.out.mono ?_
  rintro e w2 ⟨rfl, f2⟩
  have F2 := Lib.hid (Gr.trans F1.out f2)
  clear f2
  go_wp2_with fail
  go_ret2
  exact ⟨rfl, F2.out⟩
end
end Go.Proofs.Ytkclgemkeifbaaa
