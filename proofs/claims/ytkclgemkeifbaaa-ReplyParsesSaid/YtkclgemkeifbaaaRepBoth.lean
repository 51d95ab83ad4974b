/-
  The statements of layer 24: both (printed by gen_repboth.py).
-/
import Derived.Test.YtkclgemkeifbaaaRepParse
import Derived.Test.YtkclgemkeifbaaaNmRd
import Derived.Deep.CutBlock
import Derived.Deep.CutRange
import Derived.Test.YtkclgemkeifbaaaRepRefB
namespace Go.Proofs.Ytkclgemkeifbaaa
section
open Go.RowKit Go.Proofs

theorem cut_min64 (s : List UInt8) : ∃ m : Nat, m ≤ s.length ∧ m ≤ 64 ∧ (if (64 : Int) < (s.length : Int) then (64 : Int) else (s.length : Int)) = (m : Int) ∧ min (s.length : Int) 64 = (m : Int) ∧ s.take m = s.take 64 :=
  ⟨min s.length 64, by omega, by omega, by split <;> omega, by omega, by rw [List.take_eq_take_iff]; omega⟩
/-- labels, at most so many, each cut -/
def cutM (K : Nat) (l : List Lbl) : List Lbl := (l.take K).map (List.take 64)
theorem cutM_snoc (k : Nat) (l : List Lbl) (h : k < l.length) : cutM (k + 1) l = cutM k l ++ [l[k].take 64] := by
  unfold cutM
  rw [List.take_succ_eq_append_getElem h, List.map_append]; rfl
theorem cutM_len (k : Nat) (l : List Lbl) (h : k ≤ l.length) : (cutM k l).length = k := by unfold cutM; simp; omega
theorem cutM_le (k : Nat) (l : List Lbl) : (cutM k l).length ≤ k := by unfold cutM; simp; omega
theorem cutM_all {K k : Nat} {l : List Lbl} (h : ¬ (k < l.length ∧ k < K)) (hk : k ≤ K) (hl : k ≤ l.length) : cutM k l = cutM K l := by
  unfold cutM
  congr 1
  rw [List.take_eq_take_iff]; omega

set_option maxHeartbeats 4000000 in
set_option maxRecDepth 100000 in
theorem cut24_any (a : Option Addr) (cap : Nat) (l : List Lbl) (K : Nat) (hK : K ≤ 1000) (W : World) (h : SlA W a l.length cap (strVs l)) :
    Calls Try.prog 70 #[.slice a l.length cap, .int .i64 K] W fun e w' => Gr W w' ∧ ∃ v, e = .returned v ∧ w'.ownsRow W.heap.size 9 1 v (cutM K l).length (strVs (cutM K l)) := by
  obtain ⟨n, hn⟩ : ∃ n, n = min l.length K := ⟨_, rfl⟩
  have HN := Lib.hid hn
  have q1 : n ≤ l.length := by omega
  have q2 : n ≤ K := by omega
  clear hn
  have hle := h.le
  have hmx := h.max
  have H := Lib.hid h
  clear h
  go_enter Try.func70, Try.ntmps70
  go_wp2_with fail
  go_loopw [5, 6] (fun v iv wr => ∃ k : Nat, iv = .int .i64 k ∧ k ≤ n ∧ wr.ownsRow W.heap.size 9 1 v (cutM k l).length (strVs (cutM k l)) ∧ Gr W wr) (fun _ iv _ => n - (intOf iv).toNat)
  case atStart => exact ⟨0, rfl, Nat.zero_le _, World.ownsRow_nil _ _ _ _, Fr.refl _ _⟩
  case round =>
    obtain ⟨k, rfl, hk, ho, fr⟩ := hrel
    go_upto_region 3 with fail
    go_cut [15] from 7 to 15 (fun c wx => c = .bool (decide (k < n)) ∧ wr = wx)
    case first =>
      by_cases h1 : (k : Int) < (l.length : Int)
      · by_cases h2 : (k : Int) < (K : Int)
        · have hd := Lib.hid (show decide (k < n) = true by have := HN.out; simp; omega)
          clear ho fr
          go_wp2_with fail
          go_meet
          exact ⟨by rw [hd.out], rfl⟩
        · have hd := Lib.hid (show decide (k < n) = false by have := HN.out; simp; omega)
          clear ho fr
          go_wp2_with fail
          go_meet
          exact ⟨by rw [hd.out], rfl⟩
      · have hd := Lib.hid (show decide (k < n) = false by have := HN.out; simp; omega)
        clear ho fr
        go_wp2_with fail
        go_meet
        exact ⟨by rw [hd.out], rfl⟩
    case rest =>
      obtain ⟨rfl, rfl⟩ := hcut
      have HO := Lib.hid ho
      have FR := Lib.hid fr
      have hsz := fr.size
      have hcl := cutM_len k l (by omega)
      by_cases hlt : k < n
      · rw [decide_eq_true hlt]
        have h1 : k < l.length := by omega
        obtain ⟨b, o, rfl, hc0⟩ := H.out.at1 k h1
        have hbW := lt_of_cell hc0
        simp only at hbW
        have hc := fr.cell hc0 (fun h => h)
        have HS := Lib.hid (cutM_snoc k l h1)
        generalize l[k] = x at *
        obtain ⟨mm, hm1, hm2, hite, hmin, hm3⟩ := cut_min64 x
        have zx := mk_size x
        have hx : (⟨x.toArray⟩ : ByteArray).extract 0 mm = ⟨(x.take 64).toArray⟩ := by rw [mk_extract, List.drop_zero, hm3]
        obtain ⟨y, hy⟩ : ∃ y, y = x.take 64 := ⟨_, rfl⟩
        rw [← hy] at hx HS
        obtain ⟨cl, hcl'⟩ : ∃ cl, cl = cutM k l := ⟨_, rfl⟩
        rw [← hcl'] at HO hcl HS
        have hcl3 : cl.length ≤ 1000 := by omega
        clear ho fr hm3 hy hcl' hcl
        haveI : Nonempty (WC (Fr (fun q => u5.ownBlock = some q) wr)) := ⟨⟨wr, Fr.refl _ _⟩⟩
        have y0 : ∀ z : WC (Fr (fun q => u5.ownBlock = some q) wr), z.val.cell? ⟨b, o + k, none⟩ = some (strV x) := fun z => z.ok.cell hc (fun h => by have := (HO.out.lt _ h).1; simp only at this; omega)
        have d0 : (0 : Int) ≤ (mm : Int) := by omega
        have d1 : (mm : Int) ≤ (x.length : Int) := by omega
        go_upto_region 5 with fail
        refine wp_region_plan [12, 13] (Plan.seq (List.range 15) .done) (fun w' => ∃ z : WC (Fr (fun q => u5.ownBlock = some q) wr), w' = z.val) (by kernel_rfl) (by kernel_rfl) (fun c a w d v h => by cases d <;> exact h) (fun c a w d v h => by cases d <;> exact h) ⟨⟨wr.drew, (Fr.refl _ _).drew⟩, rfl⟩ ?_
        simp only [Plan.seq, List.range, List.range.loop, List.foldr]
        repeat (refine wpV_q (by simp only [List.getElem?_toArray, List.getElem?_cons_succ, List.getElem?_cons_zero] <;> rfl) (by rfl) (by rfl) ?_; go_big_quiet_step (fail); refine wpQuiet_nil ?_)
        refine wpV_e (by simp only [List.getElem?_toArray, List.getElem?_cons_succ, List.getElem?_cons_zero] <;> rfl) (by rfl) ?_
        go_wp2_with fail
        have f2 : Fr (fun q => u5.ownBlock = some q) wr ((wr.alloc (.cells #[strV y] 9)).drew) := ((Fr.refl _ _).alloc _).drew
        have O2 := Lib.hid ((HO.out.alloc (.cells #[strV y] 9)).drew)
        have N2 : Hid (SlA ((wr.alloc (.cells #[strV y] 9)).drew) (some ⟨wr.heap.size, 0, none⟩) [y].length 1 (strVs [y])) := Lib.hid (sla_one _ _ (by show (wr.alloc _).cell? _ = _; rw [World.cell?_alloc_at _ _ _ _ rfl]; rfl))
        have F2 : Hid (Gr W ((wr.alloc (.cells #[strV y] 9)).drew)) := Lib.hid (Gr.trans FR.out ((Fr.refl _ _).alloc _).drew)
        refine ⟨⟨⟨_, f2⟩, rfl⟩, ?_⟩
        clear f2
        refine wpV_e (by simp only [List.getElem?_toArray, List.getElem?_cons_succ, List.getElem?_cons_zero] <;> rfl) (by rfl) ?_
        go_wp2_with (at_builtin; refine wpList_strs_app rfl _ _ rfl O2.out N2.out rfl rfl rfl (by simp; omega) (by simp; omega) ?_)
        intro v3 w3 ho3 hg3
        have f3 : Gr W w3 := Fr.trans F2.out ((Fr.refl (fun k => Value.ownBlock _ = some k) _).grown hg3 (fun q hq => .inl hq)) (fun k hk => .inr (O2.out.lt k hk).1)
        have f3' : Fr (fun q => u5.ownBlock = some q) wr w3 := Fr.trans (((Fr.refl (fun q => u5.ownBlock = some q) wr).alloc (.cells #[strV y] 9)).drew) ((Fr.refl (fun k => Value.ownBlock _ = some k) _).grown hg3 (fun q hq => .inl hq)) (fun k hk => .inl hk)
        have F3 := Lib.hid f3
        have O3 := Lib.hid ho3
        clear f3 hg3 ho3 O2 N2 F2 HO FR
        go_wp2_with fail
        refine ⟨⟨⟨w3, f3'⟩, rfl⟩, ?_⟩
        repeat (refine wpV_q (by simp only [List.getElem?_toArray, List.getElem?_cons_succ, List.getElem?_cons_zero] <;> rfl) (by rfl) (by rfl) ?_; go_big_quiet_step (fail); refine wpQuiet_nil ?_)
        refine wpV_done ?_
        clear y0 f3'
        go_wp2_with fail
        go_roundw
        case rel => exact ⟨k + 1, by go_num, by omega, by rw [HS.out]; simpa using O3.out, F3.out⟩
        case measure => simp [intOf]; omega
      · rw [decide_eq_false hlt]
        have HCL := Lib.hid (cutM_all (K := K) (k := k) (l := l) (by have := HN.out; omega) (by omega) (by omega))
        rw [HCL.out] at HO hcl
        clear ho fr HCL hlt hcl
        go_wp2_with fail
        go_ret
        exact ⟨FR.out, _, rfl, HO.out⟩
end
section
open Go.RowKit Go.Proofs

theorem exec_bldQ (ρ : Operand → Value) (w : World) (dst : Option Tmp) (ty : TypeId) (pos : String) (after : Array Edge) {x0 x1 x2 x3 x4 : Operand} {c0 c1 c2 c3 c4 c5 c6 c7 c8 c9 c10 c11 c12 : Value} {b1 : Bool} {sa : Option Addr} {sn sc : Nat} {i3 i4 : Int} (hx0 : ρ x0 = .agg #[c0, c1, c2, c3, c4, c5, c6, c7, c8, c9, c10, c11, c12]) (hx1 : ρ x1 = .bool b1) (hx2 : ρ x2 = .slice sa sn sc) (hx3 : ρ x3 = .int .u16 i3) (hx4 : ρ x4 = .int .u16 i4) :
    (execOp ρ ⟨dst, .build 67 #[(0, x0), (1, x1), (2, x2), (3, x3), (4, x4)], ty, pos, after, none⟩).run Try.prog w = .ok (.value (.agg #[c0, c1, c2, c3, c4, c5, c6, c7, c8, c9, c10, c11, c12, .bool b1, .slice sa sn sc, .int .u16 i3, .int .u16 i4])) w := by simp [go_sem, hx0, hx1, hx2, hx3, hx4]
theorem wpList_bldQ {ops : Array Oper} {rest : List Oper} {dst : Option Tmp} {ty : TypeId} {pos : String} {after : Array Edge} {A : Act} {w : World} {Q : Exit → Act → World → Prop} {x0 x1 x2 x3 x4 : Operand} {c0 c1 c2 c3 c4 c5 c6 c7 c8 c9 c10 c11 c12 : Value} {b1 : Bool} {sa : Option Addr} {sn sc : Nat} {i3 i4 : Int}
    (hx0 : A.eval x0 = .agg #[c0, c1, c2, c3, c4, c5, c6, c7, c8, c9, c10, c11, c12]) (hx1 : A.eval x1 = .bool b1) (hx2 : A.eval x2 = .slice sa sn sc) (hx3 : A.eval x3 = .int .u16 i3) (hx4 : A.eval x4 = .int .u16 i4)
    (h : wpList Try.prog ops Q rest (A.put dst (.agg #[c0, c1, c2, c3, c4, c5, c6, c7, c8, c9, c10, c11, c12, .bool b1, .slice sa sn sc, .int .u16 i3, .int .u16 i4])) w) :
    wpList Try.prog ops Q (⟨dst, .build 67 #[(0, x0), (1, x1), (2, x2), (3, x3), (4, x4)], ty, pos, after, none⟩ :: rest) A w := by
  refine wpList_plain rfl fun K hK => ?_
  unfold Oper.wp
  rw [exec_bldQ A.eval w dst ty pos after hx0 hx1 hx2 hx3 hx4]
  exact hK _ _ h
theorem exec_bldR (ρ : Operand → Value) (w : World) (dst : Option Tmp) (ty : TypeId) (pos : String) (after : Array Edge) {x0 x1 x2 x3 x4 x5 x6 : Operand} {i0 i1 i5 i6 : Int} {b2 b3 : Bool} {sa : Option Addr} {sn sc : Nat} (hx0 : ρ x0 = .int .u16 i0) (hx1 : ρ x1 = .int .i64 i1) (hx2 : ρ x2 = .bool b2) (hx3 : ρ x3 = .bool b3) (hx4 : ρ x4 = .slice sa sn sc) (hx5 : ρ x5 = .int .i64 i5) (hx6 : ρ x6 = .int .i64 i6) :
    (execOp ρ ⟨dst, .build 96 #[(0, x0), (1, x1), (2, x2), (3, x3), (4, x4), (5, x5), (6, x6)], ty, pos, after, none⟩).run Try.prog w = .ok (.value (.agg #[.int .u16 i0, .int .i64 i1, .bool b2, .bool b3, .slice sa sn sc, .int .i64 i5, .int .i64 i6])) w := by simp [go_sem, hx0, hx1, hx2, hx3, hx4, hx5, hx6]
theorem wpList_bldR {ops : Array Oper} {rest : List Oper} {dst : Option Tmp} {ty : TypeId} {pos : String} {after : Array Edge} {A : Act} {w : World} {Q : Exit → Act → World → Prop} {x0 x1 x2 x3 x4 x5 x6 : Operand} {i0 i1 i5 i6 : Int} {b2 b3 : Bool} {sa : Option Addr} {sn sc : Nat}
    (hx0 : A.eval x0 = .int .u16 i0) (hx1 : A.eval x1 = .int .i64 i1) (hx2 : A.eval x2 = .bool b2) (hx3 : A.eval x3 = .bool b3) (hx4 : A.eval x4 = .slice sa sn sc) (hx5 : A.eval x5 = .int .i64 i5) (hx6 : A.eval x6 = .int .i64 i6)
    (h : wpList Try.prog ops Q rest (A.put dst (.agg #[.int .u16 i0, .int .i64 i1, .bool b2, .bool b3, .slice sa sn sc, .int .i64 i5, .int .i64 i6])) w) :
    wpList Try.prog ops Q (⟨dst, .build 96 #[(0, x0), (1, x1), (2, x2), (3, x3), (4, x4), (5, x5), (6, x6)], ty, pos, after, none⟩ :: rest) A w := by
  refine wpList_plain rfl fun K hK => ?_
  unfold Oper.wp
  rw [exec_bldR A.eval w dst ty pos after hx0 hx1 hx2 hx3 hx4 hx5 hx6]
  exact hK _ _ h
theorem exec_bldRR (ρ : Operand → Value) (w : World) (dst : Option Tmp) (ty : TypeId) (pos : String) (after : Array Edge) {x0 x1 x2 x3 x4 x5 x6 : Operand} {i0 i1 i3 i4 i5 : Int} {c0 c1 c2 c3 : Value} {sa : Option Addr} {sn sc : Nat} (hx0 : ρ x0 = .int .i64 i0) (hx1 : ρ x1 = .int .u32 i1) (hx2 : ρ x2 = .agg #[c0, c1, c2, c3]) (hx3 : ρ x3 = .int .u16 i3) (hx4 : ρ x4 = .int .u16 i4) (hx5 : ρ x5 = .int .u16 i5) (hx6 : ρ x6 = .slice sa sn sc) :
    (execOp ρ ⟨dst, .build 112 #[(0, x0), (1, x1), (2, x2), (3, x3), (4, x4), (5, x5), (6, x6)], ty, pos, after, none⟩).run Try.prog w = .ok (.value (.agg #[.int .i64 i0, .int .u32 i1, c0, c1, c2, c3, .int .u16 i3, .int .u16 i4, .int .u16 i5, .slice sa sn sc])) w := by simp [go_sem, hx0, hx1, hx2, hx3, hx4, hx5, hx6]
theorem wpList_bldRR {ops : Array Oper} {rest : List Oper} {dst : Option Tmp} {ty : TypeId} {pos : String} {after : Array Edge} {A : Act} {w : World} {Q : Exit → Act → World → Prop} {x0 x1 x2 x3 x4 x5 x6 : Operand} {i0 i1 i3 i4 i5 : Int} {c0 c1 c2 c3 : Value} {sa : Option Addr} {sn sc : Nat}
    (hx0 : A.eval x0 = .int .i64 i0) (hx1 : A.eval x1 = .int .u32 i1) (hx2 : A.eval x2 = .agg #[c0, c1, c2, c3]) (hx3 : A.eval x3 = .int .u16 i3) (hx4 : A.eval x4 = .int .u16 i4) (hx5 : A.eval x5 = .int .u16 i5) (hx6 : A.eval x6 = .slice sa sn sc)
    (h : wpList Try.prog ops Q rest (A.put dst (.agg #[.int .i64 i0, .int .u32 i1, c0, c1, c2, c3, .int .u16 i3, .int .u16 i4, .int .u16 i5, .slice sa sn sc])) w) :
    wpList Try.prog ops Q (⟨dst, .build 112 #[(0, x0), (1, x1), (2, x2), (3, x3), (4, x4), (5, x5), (6, x6)], ty, pos, after, none⟩ :: rest) A w := by
  refine wpList_plain rfl fun K hK => ?_
  unfold Oper.wp
  rw [exec_bldRR A.eval w dst ty pos after hx0 hx1 hx2 hx3 hx4 hx5 hx6]
  exact hK _ _ h

theorem Try.zeroRefQ24 : (Try.prog.info? 96).map (fun i => (i.zero, i.size)) = some (some (.agg #[.int .u16 0, .int .i64 0, .bool false, .bool false, .slice none 0 0, .int .i64 0, .int .i64 0]), 7) := by kernel_rfl
theorem Try.infoRefQ24 : (Try.prog.info? 96).map (·.size) = some 7 := by kernel_rfl
theorem Try.zeroLRec : (Try.prog.info? 152).map (fun i => (i.zero, i.size)) = some (some (.agg #[.int .u16 0, .int .u32 0, .int .u8 0, .int .u8 0, .int .u8 0, .int .u8 0, .int .u16 0, .int .u16 0, .int .u16 0, .slice none 0 0]), 10) := by kernel_rfl
theorem Try.infoLRec : (Try.prog.info? 152).map (·.size) = some 10 := by kernel_rfl
theorem Try.infoLQuery : (Try.prog.info? 92).map (·.size) = some 8 := by kernel_rfl
theorem Try.zeroRefRRec : (Try.prog.info? 112).map (fun i => (i.zero, i.size, i.bytes)) = some (some (.agg #[.int .i64 0, .int .u32 0, .int .u8 0, .int .u8 0, .int .u8 0, .int .u8 0, .int .u16 0, .int .u16 0, .int .u16 0, .slice none 0 0]), 10, 48) := by kernel_rfl

theorem row_not {B g : Nat} {w : World} {e e' : TypeId} {s : Nat} {v : Value} {n : Nat} {cs : List Value} {c : Array Value} {fz : Nat × Nat} (h : w.ownsRow B e s v n cs) (hb : w.heap[g]? = some (.cells c e' fz)) (he : e ≠ e') : ∀ q, v.ownBlock = some q → q ≠ g := by
  intro q hq hk
  subst hk
  rcases h.2 with ⟨rfl, _⟩ | ⟨x, cap, cur, rfl, _, hx, _⟩
  · cases hq
  · simp only [Value.ownBlock, Option.some.injEq] at hq
    subst hq
    rw [hb] at hx
    simp only [Option.some.injEq, Obj.cells.injEq] at hx
    exact he hx.2.1.symm
theorem row_box {B g : Nat} {w w' : World} {e e' : TypeId} {s : Nat} {v : Value} {n : Nat} {cs : List Value} {c : Array Value} {fz : Nat × Nat} (h : w.ownsRow B e s v n cs) (hb : w.heap[g]? = some (.cells c e' fz)) (f : Fr (fun k => k = g) w w') (he : e ≠ e') : w'.ownsRow B e s v n cs :=
  own_fr h f (fun q hq hk => row_not h hb he q hq hk)
theorem rrR_one (r : RRec) (a : Option Addr) (c : Nat) : ∀ u ∈ r.refCells a c, u.oneCell' = true := by
  intro u hu
  simp only [RRec.refCells, List.mem_cons, List.not_mem_nil, or_false] at hu
  rcases hu with rfl | rfl | rfl | rfl | rfl | rfl | rfl | rfl | rfl | rfl <;> rfl
/-- the statements' query -/
structure LQ where
  id : Int
  op : Int
  des : Bool
  asked : Bool
  name : List Lbl
  t : Int
  c : Int
  code : Int
structure LQ.Fits (x : LQ) : Prop where
  id : 0 ≤ x.id ∧ x.id ≤ 65535
  op : 0 ≤ x.op ∧ x.op ≤ 255
  t : 0 ≤ x.t ∧ x.t ≤ 65535
  c : 0 ≤ x.c ∧ x.c ≤ 65535
  code : -9223372036854775808 ≤ x.code ∧ x.code ≤ 9223372036854775807
abbrev LQ.arr (x : LQ) (a : Option Addr) (cap : Nat) : Array Value := #[.int .u16 x.id, .int .u8 x.op, .bool x.des, .bool x.asked, .slice a x.name.length cap, .int .u16 x.t, .int .u16 x.c, .int .i64 x.code]
def LQ.hd (x : LQ) : Hd := { hdZero with id := x.id, op := x.op, des := x.des }
def cutR (l : List RRec) : List RRec := (l.take 60).map fun r => { r with target := cutM 8 r.target }
/-- both rows -/
structure BothOwn (B : Nat) (w : World) (L : List RowR) (v1 v2 : Value) : Prop where
  row1 : w.ownsRow B 110 10 v1 L.length (L.flatMap RowR.cells)
  row2 : w.ownsRow B 112 10 v2 L.length (L.flatMap RowR.refCells)
  tgt : ∀ x ∈ L, w.ownsRow B 9 1 (.slice x.2.1 x.1.target.length x.2.2) x.1.target.length (strVs x.1.target)
theorem BothOwn.keep {B : Nat} {S : Nat → Prop} {w w' : World} {L : List RowR} {v1 v2 : Value} (h : BothOwn B w L v1 v2) (f : Fr S w w') (hS : ∀ k, S k → k < B) : BothOwn B w' L v1 v2 :=
  ⟨own_fr h.row1 f (fun q hq hs => by have := (h.row1.lt q hq).1; have := hS q hs; omega), own_fr h.row2 f (fun q hq hs => by have := (h.row2.lt q hq).1; have := hS q hs; omega),
    fun x hx => own_fr (h.tgt x hx) f (fun q hq hs => by have := ((h.tgt x hx).lt q hq).1; have := hS q hs; omega)⟩
theorem BothOwn.base {B B' : Nat} {w : World} {L : List RowR} {v1 v2 : Value} (h : BothOwn B w L v1 v2) (hb : B' ≤ B) : BothOwn B' w L v1 v2 := ⟨own_base h.row1 hb, own_base h.row2 hb, fun x hx => own_base (h.tgt x hx) hb⟩
theorem BothOwn.nil (B : Nat) (w : World) : BothOwn B w [] (.slice none 0 0) (.slice none 0 0) := ⟨World.ownsRow_nil _ _ _ _, World.ownsRow_nil _ _ _ _, fun _ h => by cases h⟩
theorem BothOwn.at1 {B : Nat} {w : World} {L : List RowR} {a : Option Addr} {cap : Nat} {v2 : Value} (h : BothOwn B w L (.slice a L.length cap) v2) (hf : ∀ x ∈ L, x.1.Fits) : RowsAt w a cap L := by
  obtain ⟨a', cap', e, hs, -⟩ := SlA.of_own h.row1
  cases e
  refine ⟨hs, fun x hx => ?_, hf⟩
  obtain ⟨a2, c2, e2, hs2, -⟩ := SlA.of_own (h.tgt x hx)
  cases e2
  exact hs2
theorem BothOwn.at2 {B : Nat} {w : World} {L : List RowR} {a : Option Addr} {cap : Nat} {v1 : Value} (h : BothOwn B w L v1 (.slice a L.length cap)) (hf : ∀ x ∈ L, x.1.Fits) : RefRowsAt w a cap L := by
  obtain ⟨a', cap', e, hs, -⟩ := SlA.of_own h.row2
  cases e
  refine ⟨hs, fun x hx => ?_, hf⟩
  obtain ⟨a2, c2, e2, hs2, -⟩ := SlA.of_own (h.tgt x hx)
  cases e2
  exact hs2
def BothEnd (x : LQ) (l : List RRec) (w : World) (e : Ending) (w' : World) : Prop :=
  Gr w w' ∧ ∃ an cn L a1 c1 a2 c2, w'.ownsRow w.heap.size 9 1 (.slice an (cutM 130 x.name).length cn) (cutM 130 x.name).length (strVs (cutM 130 x.name)) ∧ L.map Prod.fst = cutR l ∧
    BothOwn w.heap.size w' L (.slice a1 L.length c1) (.slice a2 L.length c2) ∧
    e = .returned (.tuple #[.agg (qCells x.hd x.asked an (cutM 130 x.name).length cn x.t x.c), .slice a1 L.length c1, .agg (rqCells x.hd x.asked an (cutM 130 x.name).length cn x.t x.c), .slice a2 L.length c2])

set_option maxHeartbeats 16000000 in
set_option maxRecDepth 100000 in
theorem both24_any (x : LQ) (hx : x.Fits) (a : Option Addr) (cap : Nat) (b : Option Addr) (capl : Nat) (LP : List RowR) (W : World) (hn : SlA W a x.name.length cap (strVs x.name)) (hL : RowsAt W b capl LP) :
    Calls Try.prog 38 #[.agg (x.arr a cap), .slice b LP.length capl] W (BothEnd x (LP.map (·.1)) W) := by
  obtain ⟨iq, hq1, hq2, hq3⟩ := info_two Try.zeroQuery
  obtain ⟨ir, hr1, hr2, hr3⟩ := info_two Try.zeroRefQ24
  obtain ⟨il, hl1, hl2, hl3⟩ := info_two Try.zeroLRec
  obtain ⟨ia, hi1, hi2, hi3, hi4⟩ := info_parts Try.zeroRRec
  obtain ⟨ib, hj1, hj2, hj3, hj4⟩ := info_parts Try.zeroRefRRec
  have hle := hL.row.le
  have hmx := hL.row.max
  obtain ⟨w1, hw1⟩ : ∃ w1, w1 = ((W.alloc (.cells (x.arr a cap) 92)).alloc (.cells #[.int .u16 0, .bool false, .int .u8 0, .bool false, .bool false, .bool false, .bool false, .int .u8 0, .int .u8 0, .int .u16 0, .int .u16 0, .int .u16 0, .int .u16 0, .bool false, .slice none 0 0, .int .u16 0, .int .u16 0] 67)).alloc (.cells #[.int .u16 0, .int .i64 0, .bool false, .bool false, .slice none 0 0, .int .i64 0, .int .i64 0] 96) := ⟨_, rfl⟩
  have f1 : Gr W w1 := by rw [hw1]; exact (((Fr.refl _ _).alloc _).alloc _).alloc _
  have BX := Lib.hid (show Bx w1 W.heap.size (x.arr a cap).toList from Bx.of_block (e := 92) (fr := (0, 0)) (by rw [hw1, heap_alloc_if, if_neg (by simp; omega), heap_alloc_if, if_neg (by simp), heap_alloc_if, if_pos rfl]))
  have Q1 := Lib.hid (show w1.heap[W.heap.size + 1]? = some (.cells #[.int .u16 0, .bool false, .int .u8 0, .bool false, .bool false, .bool false, .bool false, .int .u8 0, .int .u8 0, .int .u16 0, .int .u16 0, .int .u16 0, .int .u16 0, .bool false, .slice none 0 0, .int .u16 0, .int .u16 0] 67 (0, 0)) by rw [hw1, heap_alloc_if, if_neg (by simp), heap_alloc_if, if_pos (by simp)])
  have P1 := Lib.hid (show w1.heap[W.heap.size + 2]? = some (.cells #[.int .u16 0, .int .i64 0, .bool false, .bool false, .slice none 0 0, .int .i64 0, .int .i64 0] 96 (0, 0)) by rw [hw1, heap_alloc_if, if_pos (by simp)])
  have s1 : W.heap.size + 3 ≤ w1.heap.size := by rw [hw1]; simp
  have F1 := Lib.hid f1
  have HW1 := Lib.hid hw1
  have HN := Lib.hid (cut24_any a cap x.name 130 (by decide) w1 (hn.keep f1 (fun _ _ h => h)))
  have HLP := Lib.hid hL
  obtain ⟨e0, e2, e5, e6, e7⟩ := hx
  have y4 := BX.out 4 _ rfl
  clear hw1 f1 hn hL
  go_enter Try.func38, Try.ntmps38
  go_upto_region 1 with fail
  rw [← HW1.out]
  clear HW1
  go_wp2_with fail
  refine HN.out.mono ?_
  rintro e w2 ⟨f2, v, rfl, ow⟩
  obtain ⟨an, cn, rfl, -⟩ := SlA.of_own ow
  have BX2 := Lib.hid (BX.out.keep f2 (fun h => h))
  have F2 := Lib.hid (Gr.trans F1.out f2)
  have NB : Hid (∀ q', (Value.slice an (cutM 130 x.name).length cn).ownBlock = some q' → W.heap.size + 3 ≤ q') := Lib.hid (fun q' hq' => by have := (ow.lt q' hq').1; omega)
  have O2 := Lib.hid (own_base ow (show W.heap.size ≤ w1.heap.size by omega))
  have Q2 := Lib.hid (show w2.heap[W.heap.size + 1]? = some (.cells #[.int .u16 0, .bool false, .int .u8 0, .bool false, .bool false, .bool false, .bool false, .int .u8 0, .int .u8 0, .int .u16 0, .int .u16 0, .int .u16 0, .int .u16 0, .bool false, .slice none 0 0, .int .u16 0, .int .u16 0] 67 (0, 0)) by rw [f2.block _ (by omega) (fun h => h)]; exact Q1.out)
  have P2 := Lib.hid (show w2.heap[W.heap.size + 2]? = some (.cells #[.int .u16 0, .int .i64 0, .bool false, .bool false, .slice none 0 0, .int .i64 0, .int .i64 0] 96 (0, 0)) by rw [f2.block _ (by omega) (fun h => h)]; exact P1.out)
  have s2 := f2.size
  have y0 := BX2.out 0 _ rfl
  have y1 := BX2.out 1 _ rfl
  have y2 := BX2.out 2 _ rfl
  have y3 := BX2.out 3 _ rfl
  have y5 := BX2.out 5 _ rfl
  have y6 := BX2.out 6 _ rfl
  clear f2 ow HN F1 Q1 P1 BX y4
  have hnl := cutM_le 130 x.name
  generalize hnm : cutM 130 x.name = nm at *
  have HNM := Lib.hid hnm
  clear hnm
  go_upto_region 2 with fail
  refine wp_region_lit ?_
  iterate 18 go_step
  refine wpList_bld1 (i := x.id) (j := x.op) (b := x.des) (by rfl) (by rfl) (by rfl) ?_
  iterate 21 go_step
  refine wpList_bldQ (by rfl) (by rfl) (by rfl) (by rfl) (by rfl) ?_
  refine wpList_fresh (vs := #[.int .u16 x.id, .bool false, .int .u8 x.op, .bool false, .bool false, .bool x.des, .bool false, .int .u8 0, .int .u8 0, .int .u16 0, .int .u16 0, .int .u16 0, .int .u16 0, .bool x.asked, .slice an nm.length cn, .int .u16 x.t, .int .u16 x.c]) hq1 hq2 Try.infoQuery17 (by rfl) (by rw [← Array.all_toList]; rfl) (by rfl) (by rfl) ?_
  intro w3 f3 b3 l3
  have BX3 := Lib.hid (BX2.out.keep f3 (fun h => h))
  have F3 := Lib.hid (Gr.trans F2.out f3)
  have O3 := Lib.hid (own_fr O2.out f3 (fun _ _ h => h))
  have Q3 := Lib.hid (show w3.heap[W.heap.size + 1]? = some (.cells #[.int .u16 0, .bool false, .int .u8 0, .bool false, .bool false, .bool false, .bool false, .int .u8 0, .int .u8 0, .int .u16 0, .int .u16 0, .int .u16 0, .int .u16 0, .bool false, .slice none 0 0, .int .u16 0, .int .u16 0] 67 (0, 0)) by rw [f3.block _ (by omega) (fun h => h)]; exact Q2.out)
  have P3 := Lib.hid (show w3.heap[W.heap.size + 2]? = some (.cells #[.int .u16 0, .int .i64 0, .bool false, .bool false, .slice none 0 0, .int .i64 0, .int .i64 0] 96 (0, 0)) by rw [f3.block _ (by omega) (fun h => h)]; exact P2.out)
  obtain ⟨q, hq⟩ : ∃ q, q = w2.heap.size := ⟨_, rfl⟩
  rw [← hq] at b3 l3 ⊢
  have Y3 := Lib.hid b3
  have hqW : W.heap.size + 2 < q := by omega
  have x0 := BX3.out 0 _ rfl
  have x1 := BX3.out 1 _ rfl
  have x2 := BX3.out 2 _ rfl
  have x3 := BX3.out 3 _ rfl
  have x5 := BX3.out 5 _ rfl
  have x6 := BX3.out 6 _ rfl
  clear f3 b3 y0 y1 y2 y3 y5 y6 BX2 F2 O2 Q2 P2 hq s2
  go_upto_region 3 with fail
  refine wp_region_lit ?_
  iterate 48 go_step
  refine wpList_bldR (by rfl) (by rfl) (by rfl) (by rfl) (by rfl) (by rfl) (by rfl) ?_
  refine wpList_fresh (vs := #[.int .u16 x.id, .int .i64 x.op, .bool x.des, .bool x.asked, .slice an nm.length cn, .int .i64 x.t, .int .i64 x.c]) hr1 hr2 Try.infoRefQ24 (by rfl) (by rw [← Array.all_toList]; rfl) (by rfl) (by rfl) ?_
  intro w4 f4 b4 l4
  have F4 := Lib.hid (Gr.trans F3.out f4)
  have O4 := Lib.hid (own_fr O3.out f4 (fun _ _ h => h))
  have Q4 := Lib.hid (show w4.heap[W.heap.size + 1]? = some (.cells #[.int .u16 0, .bool false, .int .u8 0, .bool false, .bool false, .bool false, .bool false, .int .u8 0, .int .u8 0, .int .u16 0, .int .u16 0, .int .u16 0, .int .u16 0, .bool false, .slice none 0 0, .int .u16 0, .int .u16 0] 67 (0, 0)) by rw [f4.block _ (by omega) (fun h => h)]; exact Q3.out)
  have P4 := Lib.hid (show w4.heap[W.heap.size + 2]? = some (.cells #[.int .u16 0, .int .i64 0, .bool false, .bool false, .slice none 0 0, .int .i64 0, .int .i64 0] 96 (0, 0)) by rw [f4.block _ (by omega) (fun h => h)]; exact P3.out)
  have Y4 := Lib.hid (show w4.heap[q]? = some (.cells #[.int .u16 x.id, .bool false, .int .u8 x.op, .bool false, .bool false, .bool x.des, .bool false, .int .u8 0, .int .u8 0, .int .u16 0, .int .u16 0, .int .u16 0, .int .u16 0, .bool x.asked, .slice an nm.length cn, .int .u16 x.t, .int .u16 x.c] 67 (0, 0)) by rw [f4.block _ (by omega) (fun h => h)]; exact Y3.out)
  obtain ⟨z, hz⟩ : ∃ z, z = w3.heap.size := ⟨_, rfl⟩
  rw [← hz] at b4 l4 ⊢
  have hzq : q < z := by omega
  have Z4 := Lib.hid b4
  clear f4 b4 x0 x1 x2 x3 x5 x6 BX3 F3 O3 Q3 P3 Y3 hz l3
  obtain ⟨n, hn⟩ : ∃ n, n = min LP.length 60 := ⟨_, rfl⟩
  have HNN := Lib.hid hn
  have q1 : n ≤ LP.length := by omega
  have q2 : n ≤ 60 := by omega
  clear hn
  obtain ⟨ck, hck⟩ : ∃ ck : Nat → List RRec, ck = fun k => ((LP.map (·.1)).take k).map fun r => { r with target := cutM 8 r.target } := ⟨_, rfl⟩
  have HCK := Lib.hid hck
  clear hck
  go_wp2_with fail
  go_loopw [11, 12, 13] (fun v1 v2 iv wr => ∃ (k : Nat) (L : List RowR), iv = .int .i64 k ∧ k ≤ n ∧ L.length = k ∧ Hid (L.map Prod.fst = ck k) ∧ BothOwn w4.heap.size wr L v1 v2 ∧ Gr w4 wr) (fun _ _ iv _ => n - (intOf iv).toNat)
  case atStart => exact ⟨0, [], rfl, Nat.zero_le _, rfl, Lib.hid (by rw [HCK.out]; rfl), BothOwn.nil _ _, Fr.refl _ _⟩
  case round =>
    obtain ⟨k, L, rfl, hk, hLk, hmap, hown, fr⟩ := hrel
    have FR := Lib.hid fr
    have HB := Lib.hid hown
    clear fr hown
    go_upto_region 7 with fail
    go_cut [57] from 50 to 57 (fun c wx => c = .bool (decide (k < n)) ∧ wr = wx)
    case first =>
      by_cases h1 : (k : Int) < (LP.length : Int)
      · by_cases h2 : (k : Int) < 60
        · have hd := Lib.hid (show decide (k < n) = true by have := HNN.out; simp; omega)
          go_wp2_with fail
          go_meet
          exact ⟨by rw [hd.out], rfl⟩
        · have hd := Lib.hid (show decide (k < n) = false by have := HNN.out; simp; omega)
          go_wp2_with fail
          go_meet
          exact ⟨by rw [hd.out], rfl⟩
      · have hd := Lib.hid (show decide (k < n) = false by have := HNN.out; simp; omega)
        go_wp2_with fail
        go_meet
        exact ⟨by rw [hd.out], rfl⟩
    case rest =>
      obtain ⟨rfl, rfl⟩ := hcut
      by_cases hlt : k < n
      · rw [decide_eq_true hlt]
        have hkl : k < LP.length := by omega
        obtain ⟨bb, o, rfl, hrg⟩ := (HLP.out.keep (Gr.trans F4.out FR.out)).at k hkl
        have hfit := HLP.out.fits LP[k] (List.getElem_mem hkl)
        have htg := ((HLP.out.keep (Gr.trans F4.out FR.out)).tgt LP[k] (List.getElem_mem hkl))
        have HCK2 : Hid (ck (k + 1) = ck k ++ [{ LP[k].1 with target := cutM 8 LP[k].1.target }]) := Lib.hid (by
          rw [HCK.out]
          simp only
          rw [List.take_succ_eq_append_getElem (by simpa using hkl), List.map_append]
          simp)
        generalize LP[k] = y at *
        obtain ⟨r, ta, tc⟩ := y
        simp only at hrg htg HCK2 hfit
        have HRG := Lib.hid hrg
        have HTG := Lib.hid htg
        have HF := Lib.hid hfit
        have hle2 := htg.le
        have hmx2 := htg.max
        clear hrg htg hfit
        go_upto_region 9 with fail
        refine wp_region_lit ?_
        refine wpList_move ?_
        refine wpList_move ?_
        refine wpList_indexAddr Try.underlying93 hl1 hl3 (by rfl) (by rfl) hkl ?_
        refine wpList_load_mid (by rfl) 152 _ (by rfl) bb (o + k * 10) (by rfl) (r.cells ta tc) _ HRG.out Try.underlying152 rfl Try.infoLRec ?_
        refine wpList_fresh (vs := r.arr ta tc) hl1 hl2 Try.infoLRec (by rfl) (by rw [← Array.all_toList]; rfl) (by rfl) (by rfl) ?_
        intro w5 f5 b5 l5
        have HC := Lib.hid (cut24_any ta tc r.target 8 (by decide) w5 (HTG.out.keep f5 (fun _ _ h => h)))
        have FR5 := Lib.hid (Gr.trans FR.out f5)
        have HB5 := Lib.hid (HB.out.keep f5 (fun k h => h.elim))
        have hsr := FR.out.size
        obtain ⟨g, hg⟩ : ∃ g, g = wr.heap.size := ⟨_, rfl⟩
        rw [← hg] at b5 l5 ⊢
        have X5 := Lib.hid b5
        have hg4 : w4.heap.size ≤ g := by omega
        have y9 : w5.cell? ⟨g, 9, none⟩ = some (.slice ta r.target.length tc) := by rw [Lib.cell_of_heap b5]; rfl
        clear f5 b5 HRG HTG FR HB hg
        go_wp2_with fail
        refine HC.out.mono ?_
        rintro e w6 ⟨f6, v, rfl, ow⟩
        obtain ⟨tn, tcn, rfl, -⟩ := SlA.of_own ow
        have HB6 := Lib.hid (HB5.out.keep f6 (fun k h => h.elim))
        have FR6 := Lib.hid (Gr.trans FR5.out f6)
        have OW6 := Lib.hid (own_base ow (show w4.heap.size ≤ w5.heap.size by omega))
        have X6 := Lib.hid (show w6.heap[g]? = some (.cells (r.arr ta tc) 152 (0, 0)) by rw [f6.block _ (by omega) (fun h => h)]; exact X5.out)
        have z9 : w6.cell? ⟨g, 9, none⟩ = some (.slice ta r.target.length tc) := by rw [Lib.cell_of_heap X6.out]; rfl
        have z9f : w6.frozen? ⟨g, 9, none⟩ = false := Lib.frozen_of_heap X6.out 9
        have hs6 := f6.size
        have hnb : ∀ q', (Value.slice tn (cutM 8 r.target).length tcn).ownBlock = some q' → q' ≠ g := fun q' hq' => by have := (ow.lt q' hq').1; omega
        have HNB := Lib.hid hnb
        clear f6 ow HC HB5 FR5 X5 y9 hnb
        generalize cutM 8 r.target = tg at *
        go_upto_region 11 with fail
        obtain ⟨w7, hw7⟩ : ∃ v, v = w6.setCell ⟨g, 9, none⟩ (.slice tn tg.length tcn) := ⟨_, rfl⟩
        rw [← hw7]
        have f7 : Fr (fun k => k = g) w6 w7 := by rw [hw7]; exact fr_put _ _ _ _
        have hs7 := f7.size
        have X7 := Lib.hid (show w7.heap[g]? = some (.cells #[.int .u16 r.typ, .int .u32 r.ttl, .int .u8 r.a0, .int .u8 r.a1, .int .u8 r.a2, .int .u8 r.a3, .int .u16 r.prio, .int .u16 r.weight, .int .u16 r.port, .slice tn tg.length tcn] 152 (0, 0)) by rw [hw7]; exact blk_set X6.out 9 (.slice tn tg.length tcn))
        have HB7 : Hid (BothOwn w4.heap.size w7 L u11 u12) := Lib.hid ⟨row_box HB6.out.row1 X6.out f7 (by decide), row_box HB6.out.row2 X6.out f7 (by decide), fun y hy => row_box (HB6.out.tgt y hy) X6.out f7 (by decide)⟩
        have OW7 := Lib.hid (own_fr OW6.out f7 (fun q' hq' h => HNB.out q' hq' h))
        have FR7 : Hid (Gr w4 w7) := Lib.hid (gr_of_new ((new_of_gr FR6.out).trans f7 (fun k h => .inl (by omega))))
        clear f7 hw7 z9 z9f HB6 OW6 X6 FR6 HNB
        obtain ⟨w8, hw8⟩ : ∃ v, v = w7.alloc (.cells #[.int .u16 r.typ, .int .u32 r.ttl, .int .u8 r.a0, .int .u8 r.a1, .int .u8 r.a2, .int .u8 r.a3, .int .u16 r.prio, .int .u16 r.weight, .int .u16 r.port, .slice tn tg.length tcn] 110) := ⟨_, rfl⟩
        have f8 : Gr w7 w8 := by rw [hw8]; exact (Fr.refl _ _).alloc _
        have N8 := Lib.hid (show ∀ (j : Nat) (u : Value), [.int .u16 r.typ, .int .u32 r.ttl, .int .u8 r.a0, .int .u8 r.a1, .int .u8 r.a2, .int .u8 r.a3, .int .u16 r.prio, .int .u16 r.weight, .int .u16 r.port, .slice tn tg.length tcn][j]? = some u → w8.cell? ((⟨w7.heap.size, 0, none⟩ : Addr).add j) = some u by rw [hw8]; exact row_news w7 #[.int .u16 r.typ, .int .u32 r.ttl, .int .u8 r.a0, .int .u8 r.a1, .int .u8 r.a2, .int .u8 r.a3, .int .u16 r.prio, .int .u16 r.weight, .int .u16 r.port, .slice tn tg.length tcn] 110)
        have HB8 := Lib.hid (HB7.out.keep f8 (fun k h => h.elim))
        have OW8 := Lib.hid (own_fr OW7.out f8 (fun _ _ h => h))
        have X8 := Lib.hid (show w8.heap[g]? = some (.cells #[.int .u16 r.typ, .int .u32 r.ttl, .int .u8 r.a0, .int .u8 r.a1, .int .u8 r.a2, .int .u8 r.a3, .int .u16 r.prio, .int .u16 r.weight, .int .u16 r.port, .slice tn tg.length tcn] 152 (0, 0)) by rw [f8.block _ (by omega) (fun h => h)]; exact X7.out)
        have FR8 := Lib.hid (Gr.trans FR7.out f8)
        have HW8 := Lib.hid hw8
        have hs8 := f8.size
        have hW8 : w4.heap.size ≤ w8.heap.size := FR8.out.size
        have hLk2 : L.length ≤ 60 := by omega
        have HLK := Lib.hid hLk
        clear f8 hw8 HB7 OW7 FR7 hLk
        refine wp_region_lit ?_
        refine wpList_move ?_
        refine wpList_load_mid (by rfl) 152 _ (by rfl) g 0 (by rfl) [.int .u16 r.typ, .int .u32 r.ttl, .int .u8 r.a0, .int .u8 r.a1, .int .u8 r.a2, .int .u8 r.a3, .int .u16 r.prio, .int .u16 r.weight, .int .u16 r.port, .slice tn tg.length tcn] _ (blk_range X7.out) Try.underlying152 rfl Try.infoLRec ?_
        go_wp2_with (at_builtin; rw [← HW8.out]; refine wpList_append_own _ rfl _ _ 94 rfl w4.heap.size 110 ia (.agg #[.int .u16 0, .int .u32 0, .int .u8 0, .int .u8 0, .int .u8 0, .int .u8 0, .int .u16 0, .int .u16 0, .int .u16 0, .slice none 0 0]) 10 48 Try.underlying94 hi1 hi2 hi3 hi4 rfl (by decide) _ _ _ rfl HB8.out.row1 ⟨w7.heap.size, 0, none⟩ 1 1 [.int .u16 r.typ, .int .u32 r.ttl, .int .u8 r.a0, .int .u8 r.a1, .int .u8 r.a2, .int .u8 r.a3, .int .u16 r.prio, .int .u16 r.weight, .int .u16 r.port, .slice tn tg.length tcn] rfl rfl N8.out (rr_one { r with target := tg } tn tcn) (by unfold maxLen; omega) (by omega) hW8 ?_)
        intro v9 w9 ho9 hg9 _
        have f9 : Fr (fun k => w4.heap.size ≤ k) w8 w9 := ((Fr.refl (fun k => w4.heap.size ≤ k) _)).grown hg9 (fun q hq => .inl (HB8.out.row1.lt q hq).1)
        have R1 : Hid (w9.ownsRow w4.heap.size 110 10 v9 (L ++ [(({ r with target := tg } : RRec), tn, tcn)]).length ((L ++ [(({ r with target := tg } : RRec), tn, tcn)]).flatMap RowR.cells)) := Lib.hid (by simpa [RowR.cells, RRec.cells] using ho9)
        have R2 := Lib.hid (row_grown HB8.out.row2 hg9 (fun q hq => row_sep HB8.out.row2 HB8.out.row1 (by decide) q hq))
        have R3 : Hid (∀ y ∈ L ++ [(({ r with target := tg } : RRec), tn, tcn)], w9.ownsRow w4.heap.size 9 1 (.slice y.2.1 y.1.target.length y.2.2) y.1.target.length (strVs y.1.target)) := Lib.hid (fun y hy => by
          rcases List.mem_append.1 hy with hy | hy
          · exact row_grown (HB8.out.tgt y hy) hg9 (fun q hq => row_sep (HB8.out.tgt y hy) HB8.out.row1 (by decide) q hq)
          · rw [List.mem_singleton.1 hy]
            exact row_grown OW8.out hg9 (fun q hq => row_sep OW8.out HB8.out.row1 (by decide) q hq))
        have f9x : Fr (fun k => u11.ownBlock = some k) w8 w9 := (Fr.refl _ _).grown hg9 (fun q hq => .inl hq)
        have X9 := Lib.hid (show w9.heap[g]? = some (.cells #[.int .u16 r.typ, .int .u32 r.ttl, .int .u8 r.a0, .int .u8 r.a1, .int .u8 r.a2, .int .u8 r.a3, .int .u16 r.prio, .int .u16 r.weight, .int .u16 r.port, .slice tn tg.length tcn] 152 (0, 0)) by rw [f9x.block _ (by omega) (fun h => row_not HB8.out.row1 X8.out (by decide) g h rfl)]; exact X8.out)
        have FR9 : Hid (Gr w4 w9) := Lib.hid (gr_of_new ((new_of_gr FR8.out).trans f9 (fun k h => .inl h)))
        have hs9 := f9.size
        have c0 : w9.cell? ⟨g, 0, none⟩ = some (.int .u16 r.typ) := by rw [Lib.cell_of_heap X9.out]; rfl
        have c1 : w9.cell? ⟨g, 1, none⟩ = some (.int .u32 r.ttl) := by rw [Lib.cell_of_heap X9.out]; rfl
        have c2 : w9.cell? ⟨g, 2, none⟩ = some (.int .u8 r.a0) := by rw [Lib.cell_of_heap X9.out]; rfl
        have c3 : w9.cell? ⟨g, 3, none⟩ = some (.int .u8 r.a1) := by rw [Lib.cell_of_heap X9.out]; rfl
        have c4 : w9.cell? ⟨g, 4, none⟩ = some (.int .u8 r.a2) := by rw [Lib.cell_of_heap X9.out]; rfl
        have c5 : w9.cell? ⟨g, 5, none⟩ = some (.int .u8 r.a3) := by rw [Lib.cell_of_heap X9.out]; rfl
        have c6 : w9.cell? ⟨g, 6, none⟩ = some (.int .u16 r.prio) := by rw [Lib.cell_of_heap X9.out]; rfl
        have c7 : w9.cell? ⟨g, 7, none⟩ = some (.int .u16 r.weight) := by rw [Lib.cell_of_heap X9.out]; rfl
        have c8 : w9.cell? ⟨g, 8, none⟩ = some (.int .u16 r.port) := by rw [Lib.cell_of_heap X9.out]; rfl
        have c9 : w9.cell? ⟨g, 9, none⟩ = some (.slice tn tg.length tcn) := by rw [Lib.cell_of_heap X9.out]; rfl
        obtain ⟨⟨t0, t1⟩, ⟨l0, l1⟩⟩ := (⟨HF.out.typ, HF.out.ttl⟩ : _ ∧ _)
        clear ho9 hg9 f9 f9x HB8 OW8 X8 FR8 HW8 N8 X7 X9 hW8
        obtain ⟨w10, hw10⟩ : ∃ v, v = w9.alloc (.cells #[.int .i64 r.typ, .int .u32 r.ttl, .int .u8 r.a0, .int .u8 r.a1, .int .u8 r.a2, .int .u8 r.a3, .int .u16 r.prio, .int .u16 r.weight, .int .u16 r.port, .slice tn tg.length tcn] 112) := ⟨_, rfl⟩
        have f10 : Gr w9 w10 := by rw [hw10]; exact (Fr.refl _ _).alloc _
        have N10 := Lib.hid (show ∀ (j : Nat) (u : Value), (RRec.refCells { r with target := tg } tn tcn)[j]? = some u → w10.cell? ((⟨w9.heap.size, 0, none⟩ : Addr).add j) = some u by rw [hw10]; exact row_news w9 (RRec.refArr { r with target := tg } tn tcn) 112)
        have S1 := Lib.hid (own_fr R1.out f10 (fun _ _ h => h))
        have S2 := Lib.hid (own_fr R2.out f10 (fun _ _ h => h))
        have S3 := Lib.hid (fun y hy => own_fr (R3.out y hy) f10 (fun _ _ h => h))
        have FR10 := Lib.hid (Gr.trans FR9.out f10)
        have HW10 := Lib.hid hw10
        have hW10 : w4.heap.size ≤ w10.heap.size := FR10.out.size
        clear f10 hw10 R1 R2 R3 FR9
        go_upto_region 12 with fail
        refine wp_region_lit ?_
        iterate 48 go_step
        refine wpList_bldRR (by rfl) (by rfl) (by rfl) (by rfl) (by rfl) (by rfl) (by rfl) ?_
        clear c0 c1 c2 c3 c4 c5 c6 c7 c8 c9
        go_wp2_with (at_builtin; rw [← HW10.out]; refine wpList_append_own _ rfl _ _ 97 rfl w4.heap.size 112 ib (.agg #[.int .i64 0, .int .u32 0, .int .u8 0, .int .u8 0, .int .u8 0, .int .u8 0, .int .u16 0, .int .u16 0, .int .u16 0, .slice none 0 0]) 10 48 Try.underlying97 hj1 hj2 hj3 hj4 rfl (by decide) _ _ _ rfl S2.out ⟨w9.heap.size, 0, none⟩ 1 1 (RRec.refCells { r with target := tg } tn tcn) rfl rfl N10.out (rrR_one { r with target := tg } tn tcn) (by unfold maxLen; omega) (by omega) hW10 ?_)
        intro v11 w11 ho11 hg11 _
        have f11 : Fr (fun k => w4.heap.size ≤ k) w10 w11 := ((Fr.refl (fun k => w4.heap.size ≤ k) _)).grown hg11 (fun q hq => .inl (S2.out.lt q hq).1)
        have HB11 : Hid (BothOwn w4.heap.size w11 (L ++ [(({ r with target := tg } : RRec), tn, tcn)]) v9 v11) := Lib.hid
          ⟨row_grown S1.out hg11 (fun q hq => row_sep S1.out S2.out (by decide) q hq), by simpa [RowR.refCells] using ho11, fun y hy => row_grown (S3.out y hy) hg11 (fun q hq => row_sep (S3.out y hy) S2.out (by decide) q hq)⟩
        have FR11 : Hid (Gr w4 w11) := Lib.hid (gr_of_new ((new_of_gr FR10.out).trans f11 (fun k h => .inl h)))
        have HM11 : Hid ((L ++ [(({ r with target := tg } : RRec), tn, tcn)]).map Prod.fst = ck (k + 1)) := Lib.hid (by rw [List.map_append, hmap.out, HCK2.out]; rfl)
        have HL11 : (L ++ [(({ r with target := tg } : RRec), tn, tcn)]).length = k + 1 := by rw [List.length_append, HLK.out]; rfl
        have HLL := Lib.hid HL11
        clear ho11 hg11 f11 S1 S2 S3 N10 HW10 FR10 HCK2 HL11
        go_wp2_with fail
        go_roundw
        case rel => exact ⟨k + 1, _, by go_num, by omega, HLL.out, HM11, HB11.out, FR11.out⟩
        case measure => simp [intOf]; omega
      · rw [decide_eq_false hlt]
        have hkn : k = n := by omega
        subst hkn
        have hcr : ck k = cutR (LP.map (·.1)) := by
          rw [HCK.out]
          unfold cutR
          simp only
          congr 1
          rw [List.take_eq_take_iff, List.length_map]
          have := HNN.out
          omega
        have HM : Hid (L.map Prod.fst = cutR (LP.map (·.1))) := Lib.hid (by rw [hmap.out, hcr])
        obtain ⟨a1, k1, rfl, -⟩ := SlA.of_own HB.out.row1
        obtain ⟨a2, k2, rfl, -⟩ := SlA.of_own HB.out.row2
        have hs4 := F4.out.size
        obtain ⟨w, hw⟩ : ∃ w, w = wr := ⟨_, rfl⟩
        rw [← hw]
        have FW := Lib.hid (show Gr w4 w by rw [hw]; exact FR.out)
        have BW := Lib.hid (show BothOwn w4.heap.size w L (.slice a1 L.length k1) (.slice a2 L.length k2) by rw [hw]; exact HB.out)
        clear FR HB
        clear hw
        have hsw := FW.out.size
        have G8 := Lib.hid (Gr.trans F4.out FW.out)
        have A8 := Lib.hid (show w.heap[W.heap.size + 1]? = some (.cells #[.int .u16 0, .bool false, .int .u8 0, .bool false, .bool false, .bool false, .bool false, .int .u8 0, .int .u8 0, .int .u16 0, .int .u16 0, .int .u16 0, .int .u16 0, .bool false, .slice none 0 0, .int .u16 0, .int .u16 0] 67 (0, 0)) by rw [FW.out.block _ (by omega) (fun h => h)]; exact Q4.out)
        have E8 := Lib.hid (show w.heap[W.heap.size + 2]? = some (.cells #[.int .u16 0, .int .i64 0, .bool false, .bool false, .slice none 0 0, .int .i64 0, .int .i64 0] 96 (0, 0)) by rw [FW.out.block _ (by omega) (fun h => h)]; exact P4.out)
        have Y8 := Lib.hid (show w.heap[q]? = some (.cells #[.int .u16 x.id, .bool false, .int .u8 x.op, .bool false, .bool false, .bool x.des, .bool false, .int .u8 0, .int .u8 0, .int .u16 0, .int .u16 0, .int .u16 0, .int .u16 0, .bool x.asked, .slice an nm.length cn, .int .u16 x.t, .int .u16 x.c] 67 (0, 0)) by rw [FW.out.block _ (by omega) (fun h => h)]; exact Y4.out)
        have Z8 := Lib.hid (show w.heap[z]? = some (.cells #[.int .u16 x.id, .int .i64 x.op, .bool x.des, .bool x.asked, .slice an nm.length cn, .int .i64 x.t, .int .i64 x.c] 96 (0, 0)) by rw [FW.out.block _ (by omega) (fun h => h)]; exact Z4.out)
        have O8 := Lib.hid (own_fr O4.out FW.out (fun _ _ h => h))
        haveI : Nonempty (WC (Fr (fun k => k = W.heap.size + 1 ∨ k = W.heap.size + 2) w)) := ⟨⟨w, Fr.refl _ _⟩⟩
        have r1 : ∀ w', (∃ x : WC (Fr (fun k => k = W.heap.size + 1 ∨ k = W.heap.size + 2) w), w' = x.val) → w'.rangeAt q 0 (Array.toList #[.int .u16 x.id, .bool false, .int .u8 x.op, .bool false, .bool false, .bool x.des, .bool false, .int .u8 0, .int .u8 0, .int .u16 0, .int .u16 0, .int .u16 0, .int .u16 0, .bool x.asked, .slice an nm.length cn, .int .u16 x.t, .int .u16 x.c]) := fun w' hz => by
          obtain ⟨x', rfl⟩ := hz
          exact blk_range (show x'.val.heap[q]? = some (.cells #[.int .u16 x.id, .bool false, .int .u8 x.op, .bool false, .bool false, .bool x.des, .bool false, .int .u8 0, .int .u8 0, .int .u16 0, .int .u16 0, .int .u16 0, .int .u16 0, .bool x.asked, .slice an nm.length cn, .int .u16 x.t, .int .u16 x.c] 67 (0, 0)) by rw [x'.ok.block q (by omega) (by omega)]; exact Y8.out)
        have r2 : ∀ w', (∃ x : WC (Fr (fun k => k = W.heap.size + 1 ∨ k = W.heap.size + 2) w), w' = x.val) → w'.rangeAt z 0 (Array.toList #[.int .u16 x.id, .int .i64 x.op, .bool x.des, .bool x.asked, .slice an nm.length cn, .int .i64 x.t, .int .i64 x.c]) := fun w' hz => by
          obtain ⟨x', rfl⟩ := hz
          exact blk_range (show x'.val.heap[z]? = some (.cells #[.int .u16 x.id, .int .i64 x.op, .bool x.des, .bool x.asked, .slice an nm.length cn, .int .i64 x.t, .int .i64 x.c] 96 (0, 0)) by rw [x'.ok.block z (by omega) (by omega)]; exact Z8.out)
        have R1 := Lib.hid r1
        have R2 := Lib.hid r2
        obtain ⟨wx, hwx⟩ : ∃ v, v = w.drew.setCells (W.heap.size + 1) 0 (Array.toList #[.int .u16 x.id, .bool false, .int .u8 x.op, .bool false, .bool false, .bool x.des, .bool false, .int .u8 0, .int .u8 0, .int .u16 0, .int .u16 0, .int .u16 0, .int .u16 0, .bool x.asked, .slice an nm.length cn, .int .u16 x.t, .int .u16 x.c]) := ⟨_, rfl⟩
        have fx : Fr (fun k => k = W.heap.size + 1 ∨ k = W.heap.size + 2) w wx := by rw [hwx]; exact Fr.trans ((Fr.refl (fun k => k = W.heap.size + 1 ∨ k = W.heap.size + 2) w).drew) (fr_setCells _ _ _ _) (fun k h => .inl (.inl h))
        have bx1 : wx.heap[W.heap.size + 1]? = some (.cells #[.int .u16 x.id, .bool false, .int .u8 x.op, .bool false, .bool false, .bool x.des, .bool false, .int .u8 0, .int .u8 0, .int .u16 0, .int .u16 0, .int .u16 0, .int .u16 0, .bool x.asked, .slice an nm.length cn, .int .u16 x.t, .int .u16 x.c] 67 (0, 0)) := by rw [hwx]; exact blk_all (w := w.drew) A8.out _ rfl
        have bx2 : wx.heap[W.heap.size + 2]? = some (.cells #[.int .u16 0, .int .i64 0, .bool false, .bool false, .slice none 0 0, .int .i64 0, .int .i64 0] 96 (0, 0)) := by rw [hwx, (fr_setCells (W.heap.size + 1) _ 0 w.drew).block _ (by show W.heap.size + 2 < w.heap.size; have := FW.out.size; omega) (by omega)]; exact E8.out
        obtain ⟨wy, hwy⟩ : ∃ v, v = wx.setCells (W.heap.size + 2) 0 (Array.toList #[.int .u16 x.id, .int .i64 x.op, .bool x.des, .bool x.asked, .slice an nm.length cn, .int .i64 x.t, .int .i64 x.c]) := ⟨_, rfl⟩
        have fy0 := fr_setCells (W.heap.size + 2) (Array.toList #[.int .u16 x.id, .int .i64 x.op, .bool x.des, .bool x.asked, .slice an nm.length cn, .int .i64 x.t, .int .i64 x.c]) 0 wx
        rw [← hwy] at fy0
        have fy : Fr (fun k => k = W.heap.size + 1 ∨ k = W.heap.size + 2) w wy := fx.trans fy0 (fun k h => .inl (.inr h))
        have by1 : wy.heap[W.heap.size + 1]? = some (.cells #[.int .u16 x.id, .bool false, .int .u8 x.op, .bool false, .bool false, .bool x.des, .bool false, .int .u8 0, .int .u8 0, .int .u16 0, .int .u16 0, .int .u16 0, .int .u16 0, .bool x.asked, .slice an nm.length cn, .int .u16 x.t, .int .u16 x.c] 67 (0, 0)) := by rw [fy0.block _ (Array.getElem?_eq_some_iff.1 bx1).1 (by omega)]; exact bx1
        have by2 : wy.heap[W.heap.size + 2]? = some (.cells #[.int .u16 x.id, .int .i64 x.op, .bool x.des, .bool x.asked, .slice an nm.length cn, .int .i64 x.t, .int .i64 x.c] 96 (0, 0)) := by rw [hwy]; exact blk_all bx2 _ rfl
        have T1 := Lib.hid (show w.drew.there (W.heap.size + 1) 0 17 from blk_there A8.out 17 (Nat.le_refl 17))
        have T2 := Lib.hid (show wx.there (W.heap.size + 2) 0 7 from blk_there bx2 7 (Nat.le_refl 7))
        have L1 : Hid ((loadVar 67 ⟨W.heap.size + 1, 0, none⟩).run Try.prog wy = .ok (.agg #[.int .u16 x.id, .bool false, .int .u8 x.op, .bool false, .bool false, .bool x.des, .bool false, .int .u8 0, .int .u8 0, .int .u16 0, .int .u16 0, .int .u16 0, .int .u16 0, .bool x.asked, .slice an nm.length cn, .int .u16 x.t, .int .u16 x.c]) wy) := Lib.hid (run_loadVar_mid wy (W.heap.size + 1) 0 67 (Array.toList #[.int .u16 x.id, .bool false, .int .u8 x.op, .bool false, .bool false, .bool x.des, .bool false, .int .u8 0, .int .u8 0, .int .u16 0, .int .u16 0, .int .u16 0, .int .u16 0, .bool x.asked, .slice an nm.length cn, .int .u16 x.t, .int .u16 x.c]) _ (blk_range by1) Try.underlying67 rfl Try.infoQuery17)
        have L2 : Hid ((loadVar 96 ⟨W.heap.size + 2, 0, none⟩).run Try.prog wy = .ok (.agg #[.int .u16 x.id, .int .i64 x.op, .bool x.des, .bool x.asked, .slice an nm.length cn, .int .i64 x.t, .int .i64 x.c]) wy) := Lib.hid (run_loadVar_mid wy (W.heap.size + 2) 0 96 (Array.toList #[.int .u16 x.id, .int .i64 x.op, .bool x.des, .bool x.asked, .slice an nm.length cn, .int .i64 x.t, .int .i64 x.c]) _ (blk_range by2) Try.underlying96 rfl Try.infoRefQ24)
        have A1 : Hid ((asAddr (.pointer (some ⟨W.heap.size + 1, 0, none⟩))).run Try.prog wy = .ok ⟨W.heap.size + 1, 0, none⟩ wy) := Lib.hid (by simp [go_sem])
        have A2 : Hid ((asAddr (.pointer (some ⟨W.heap.size + 1 + 1, 0, none⟩))).run Try.prog wy = .ok ⟨W.heap.size + 1 + 1, 0, none⟩ wy) := Lib.hid (by simp [go_sem])
        have GY : Hid (Gr W wy) := Lib.hid (gr_of_new ((new_of_gr G8.out).trans fy (fun j h => .inl (by omega))))
        have OY := Lib.hid (own_fr O8.out fy (fun q' hq' h => by have := NB.out q' hq'; omega))
        have BY : Hid (BothOwn W.heap.size wy L (.slice a1 L.length k1) (.slice a2 L.length k2)) := Lib.hid ((BW.out.keep fy (fun k hk => by omega)).base (by omega))
        have FX := Lib.hid fx
        have FY := Lib.hid fy
        have HWX := Lib.hid hwx
        have HWY := Lib.hid hwy
        clear hwx hwy fx fy fy0 bx1 bx2 by1 by2 r1 r2 A8 E8 Y8 Z8 O8 BW FW F4 Q4 P4 Y4 Z4 O4
        go_upto_region 13 with fail
        refine wp_region_plan [4, 6] (Plan.seq (List.range 8) .done) (fun w' => ∃ x : WC (Fr (fun k => k = W.heap.size + 1 ∨ k = W.heap.size + 2) w), w' = x.val) (by kernel_rfl) (by kernel_rfl) (fun c a w d v h => by cases d <;> exact h) (fun c a w d v h => by cases d <;> exact h) ⟨⟨w.drew, (Fr.refl _ _).drew⟩, rfl⟩ ?_
        simp only [Plan.seq, List.range, List.range.loop, List.foldr]
        refine wpV_q (by simp only [List.getElem?_toArray, List.getElem?_cons_zero] <;> rfl) (by rfl) (by rfl) ?_
        refine wpQuiet_load_mid (by rfl) 67 _ (by rfl) q 0 (by rfl) (Array.toList #[.int .u16 x.id, .bool false, .int .u8 x.op, .bool false, .bool false, .bool x.des, .bool false, .int .u8 0, .int .u8 0, .int .u16 0, .int .u16 0, .int .u16 0, .int .u16 0, .bool x.asked, .slice an nm.length cn, .int .u16 x.t, .int .u16 x.c]) _ R1.out Try.underlying67 rfl Try.infoQuery17 ?_
        refine wpQuiet_nil ?_
        simp only [Act.put, List.setIfInBounds_toArray, List.set_cons_succ, List.set_cons_zero]
        refine wpV_q (by simp only [List.getElem?_toArray, List.getElem?_cons_succ, List.getElem?_cons_zero] <;> rfl) (by rfl) (by rfl) ?_
        go_big_quiet_step (fail)
        refine wpQuiet_nil ?_
        refine wpV_q (by simp only [List.getElem?_toArray, List.getElem?_cons_succ, List.getElem?_cons_zero] <;> rfl) (by rfl) (by rfl) ?_
        refine wpQuiet_load_mid (by rfl) 96 _ (by rfl) z 0 (by rfl) (Array.toList #[.int .u16 x.id, .int .i64 x.op, .bool x.des, .bool x.asked, .slice an nm.length cn, .int .i64 x.t, .int .i64 x.c]) _ R2.out Try.underlying96 rfl Try.infoRefQ24 ?_
        refine wpQuiet_nil ?_
        simp only [Act.put, List.setIfInBounds_toArray, List.set_cons_succ, List.set_cons_zero]
        repeat (refine wpV_q (by simp only [List.getElem?_toArray, List.getElem?_cons_succ, List.getElem?_cons_zero] <;> rfl) (by rfl) (by rfl) ?_; go_big_quiet_step (fail); refine wpQuiet_nil ?_)
        refine wpV_e (by simp only [List.getElem?_toArray, List.getElem?_cons_succ, List.getElem?_cons_zero] <;> rfl) (by rfl) ?_
        refine wpList_store_mid (by rfl) 67 _ _ (by rfl) (W.heap.size + 1) 0 #[.int .u16 x.id, .bool false, .int .u8 x.op, .bool false, .bool false, .bool x.des, .bool false, .int .u8 0, .int .u8 0, .int .u16 0, .int .u16 0, .int .u16 0, .int .u16 0, .bool x.asked, .slice an nm.length cn, .int .u16 x.t, .int .u16 x.c] (by rfl) (by rfl) T1.out Try.infoQuery17 (by rw [← Array.all_toList]; rfl) ?_
        refine wpList_nil ?_
        rw [← HWX.out]
        refine ⟨⟨⟨wx, FX.out⟩, rfl⟩, ?_⟩
        simp only [Act.put]
        repeat (refine wpV_q (by simp only [List.getElem?_toArray, List.getElem?_cons_succ, List.getElem?_cons_zero] <;> rfl) (by rfl) (by rfl) ?_; go_big_quiet_step (fail); refine wpQuiet_nil ?_)
        refine wpV_e (by simp only [List.getElem?_toArray, List.getElem?_cons_succ, List.getElem?_cons_zero] <;> rfl) (by rfl) ?_
        refine wpList_store_mid (by rfl) 96 _ _ (by rfl) (W.heap.size + 2) 0 #[.int .u16 x.id, .int .i64 x.op, .bool x.des, .bool x.asked, .slice an nm.length cn, .int .i64 x.t, .int .i64 x.c] (by rfl) (by rfl) T2.out Try.infoRefQ24 (by rw [← Array.all_toList]; rfl) ?_
        refine wpList_nil ?_
        rw [← HWY.out]
        refine ⟨⟨⟨wy, FY.out⟩, rfl⟩, ?_⟩
        simp only [Act.put]
        repeat (refine wpV_q (by simp only [List.getElem?_toArray, List.getElem?_cons_succ, List.getElem?_cons_zero] <;> rfl) (by rfl) (by rfl) ?_; go_big_quiet_step (fail); refine wpQuiet_nil ?_)
        refine wpV_done ?_
        clear R1 R2 this T1 T2 HWX HWY FX FY
        go_wp2_with fail
        refine bodyPost_ret (v := .tuple #[.agg #[.int .u16 x.id, .bool false, .int .u8 x.op, .bool false, .bool false, .bool x.des, .bool false, .int .u8 0, .int .u8 0, .int .u16 0, .int .u16 0, .int .u16 0, .int .u16 0, .bool x.asked, .slice an nm.length cn, .int .u16 x.t, .int .u16 x.c], .slice a1 L.length k1, .agg #[.int .u16 x.id, .int .i64 x.op, .bool x.des, .bool x.asked, .slice an nm.length cn, .int .i64 x.t, .int .i64 x.c], .slice a2 L.length k2]) (by simp [results, Try.results38, Sem.run_bind, Result.andThen_ok, L1.out, A1.out, L2.out, A2.out]) rfl ?_
        have e := HNM.out
        subst e
        exact ⟨GY.out, an, cn, L, a1, k1, a2, k2, OY.out, HM.out, BY.out, rfl⟩
end
end Go.Proofs.Ytkclgemkeifbaaa
