/-
  Words of the walk of HandPairs (printed by gen_hpdef.py).
-/
import Derived.Test.YtelepohdfcjnfaaNetSta
import Derived.Test.YtelepohdfcjnfaaHandSpk
namespace Go.Proofs.Ytelepohdfcjnfaa
open Go.RowKit Go.Proofs

theorem there_at {w : World} {b : Nat} {c : Array Value} {e : TypeId} (h : w.heap[b]? = some (.cells c e (0, 0))) (o n : Nat) (hn : o + n ≤ c.size) : w.there b o n := by
  intro j hj
  refine ⟨?_, Lib.frozen_of_heap h (o + j)⟩
  rw [Lib.cell_of_heap h, Array.getElem?_eq_getElem (by omega)]
  rfl
/-- a choice -/
structure LCh where
  what : Int
  a : Int
  b : Int
  high : Bool
def LCh.cells (x : LCh) : List Value := [.int .u8 x.what, .int .u8 x.a, .int .u8 x.b, .bool x.high]
/-- what stays from round to round -/
def HpSt (W : World) (q7 q10 : Nat) (dp : Value) (N : Nat) (wr : World) : Prop :=
  ∃ (Wb : World) (n : Net) (x : Nat → HdP) (v : Nat → Value) (ds : List Int), NInv n ∧ (∀ i j, (n.w i j).length ≤ N) ∧ Gr W Wb ∧ q7 < Wb.heap.size ∧ wr.heap[q7]? = some (.cells (hsArr n.h x) 32 (0, 0)) ∧
    Sta Wb (fun k => k ≠ q7) dp ds [⟨q10, wsArr v, 38⟩] (ownW (fun m => n.w (m / 4) (m % 4)) v) (rowsN n.h x) wr
theorem Sta.nils16 {W : World} {O : Nat → Prop} {p : Value} {ds : List Int} {B : List Blk} {R : List Rw} {w : World} (h : Sta W O p ds B [] R w) : Sta W O p ds B (ownW (fun _ => []) (fun _ => .slice none 0 0)) R w :=
  (((((((((((((((h.ownNil 45 2).ownNil 45 2).ownNil 45 2).ownNil 45 2).ownNil 45 2).ownNil 45 2).ownNil 45 2).ownNil 45 2).ownNil 45 2).ownNil 45 2).ownNil 45 2).ownNil 45 2).ownNil 45 2).ownNil 45 2).ownNil 45 2).ownNil 45 2
theorem Try.zeroLHChoice : (Try.prog.info? 40).map (fun i => (i.zero, i.size)) = some (some (.agg #[.int .u8 0, .int .u8 0, .int .u8 0, .bool false]), 4) := by kernel_rfl
theorem Try.infoLHChoice : (Try.prog.info? 40).map (·.size) = some 4 := by kernel_rfl
abbrev LCh.arr (x : LCh) : Array Value := #[.int .u8 x.what, .int .u8 x.a, .int .u8 x.b, .bool x.high]
def LCh.Ok (x : LCh) : Prop := (0 ≤ x.what ∧ x.what < 256) ∧ (0 ≤ x.a ∧ x.a < 256) ∧ 0 ≤ x.b ∧ x.b < 256
theorem Try.zeroWays4 : (Try.prog.info? 38).map (fun i => (i.zero, i.size)) = some (some (.agg #[.slice none 0 0, .slice none 0 0, .slice none 0 0, .slice none 0 0, .slice none 0 0, .slice none 0 0, .slice none 0 0, .slice none 0 0, .slice none 0 0, .slice none 0 0, .slice none 0 0, .slice none 0 0, .slice none 0 0, .slice none 0 0, .slice none 0 0, .slice none 0 0]), 16) := by kernel_rfl
/-- the first k hands are made -/
def hsPart (h : Nat → Hd) (k : Nat) : Array Value := ((List.range k).flatMap (fun i => ((h i).arr hdNone).toList) ++ (List.replicate (4 - k) handZ.toList).flatten).toArray
theorem hsPart_put (h : Nat → Hd) {k : Nat} (hk : k < 4) : putAt (hsPart h k) (k * 7) ((h k).arr hdNone) = hsPart h (k + 1) := by
  rcases four hk with rfl | rfl | rfl | rfl <;> rfl
theorem hsPart_size (h : Nat → Hd) {k : Nat} (hk : k ≤ 4) : (hsPart h k).size = 28 := by
  have : k = 0 ∨ k = 1 ∨ k = 2 ∨ k = 3 ∨ k = 4 := by omega
  rcases this with rfl | rfl | rfl | rfl | rfl <;> rfl
theorem Try.zeroHands4 : (Try.prog.info? 32).map (fun i => (i.zero, i.size)) = some (some (.agg #[.int .i64 0, .slice none 0 0, .int .i64 0, .slice none 0 0, .int .i64 0, .slice none 0 0, .int .i64 0, .int .i64 0, .slice none 0 0, .int .i64 0, .slice none 0 0, .int .i64 0, .slice none 0 0, .int .i64 0, .int .i64 0, .slice none 0 0, .int .i64 0, .slice none 0 0, .int .i64 0, .slice none 0 0, .int .i64 0, .int .i64 0, .slice none 0 0, .int .i64 0, .slice none 0 0, .int .i64 0, .slice none 0 0, .int .i64 0]), 28) := by kernel_rfl
theorem u8_and3 (x : Int) : ∃ v : Int, bits .and .u8 x 3 = v ∧ 0 ≤ v ∧ v ≤ 3 := by
  refine ⟨_, rfl, ?_⟩
  have h : (BitVec.ofInt 8 x &&& BitVec.ofInt 8 3).toNat ≤ 3 := by
    rw [BitVec.toNat_and]
    exact Nat.and_le_right
  have e : bits .and .u8 x 3 = IntKind.u8.wrap ((BitVec.ofInt 8 x &&& BitVec.ofInt 8 3).toNat : Int) := rfl
  rw [e, IntKind.wrap_u8]
  omega
/-- what was said in a round, and by whom -/
def HpOut (W : World) (q7 q10 : Nat) (dp : Value) (N : Nat) (v15 v16 : Value) (w : World) : Prop :=
  ∃ (Wb : World) (n : Net) (x : Nat → HdP) (v : Nat → Value) (ds : List Int) (outs : List Ho) (a : Option Addr) (c p : Nat), v15 = .slice a outs.length c ∧ v16 = .int .i64 p ∧ p < 4 ∧ NInv ⟨n.h, pushAll p n.w outs⟩ ∧ (∀ i j, (n.w i j).length + outs.length ≤ N + 2) ∧ outs.length ≤ 2 ∧ (∀ o ∈ outs, 1 ≤ o.who ∧ o.who ≤ 4 ∧ o.who ≠ (p : Int) + 1) ∧
    Gr W Wb ∧ q7 < Wb.heap.size ∧ w.heap[q7]? = some (.cells (hsArr n.h x) 32 (0, 0)) ∧
    Sta Wb (fun k => k ≠ q7) dp ds [⟨q10, wsArr v, 38⟩] (ownW (fun m => n.w (m / 4) (m % 4)) v) (⟨a, outs.length, c, houts outs⟩ :: rowsN n.h x) w
/-- a hand is laid into the hands' variable -/
theorem Sta.putHand {W Wb w : World} {q7 : Nat} {dp : Value} {ds : List Int} {B : List Blk} {L : List Ow} {R : List Rw} {h : Nat → Hd} {x : Nat → HdP} (st : Sta Wb (fun k => k ≠ q7) dp ds B L R w) (hb : w.heap[q7]? = some (.cells (hsArr h x) 32 (0, 0))) (hq : q7 < Wb.heap.size) (hp : ¬ pblk dp q7) (g : Gr W Wb) (hW : W.heap.size ≤ q7)
    {i : Nat} (hi : i < 4) (h' : Hd) (x' : HdP) {R2 : List Rw} (hR : ∀ r ∈ R2, r ∈ R) :
    ∃ W2, Gr W W2 ∧ q7 < W2.heap.size ∧ (w.setCells q7 (i * 7) (h'.arr x').toList).heap[q7]? = some (.cells (hsArr (upd h i h') (upd x i x')) 32 (0, 0)) ∧ Sta W2 (fun k => k ≠ q7) dp ds B L R2 (w.setCells q7 (i * 7) (h'.arr x').toList) := by
  obtain ⟨W2, f, l, e, s⟩ := st.rebase (i * 7) (vs := h'.arr x') hq hp hb (noU32_hs h x) (by rw [hs_size]; show i * 7 + 7 ≤ 28; omega) (fun k hk => hk)
  refine ⟨W2, Fr.trans g f (fun k hk => .inr (by omega)), l, ?_, s.less (List.Sublist.refl _) hR⟩
  rw [e, hs_put h x hi]
theorem ownW_at (w : Nat → Nat → List Lr) (v : Nat → Value) {a b : Nat} (ha : a < 4) (hb : b < 4) : (ownW (fun m => w (m / 4) (m % 4)) v)[a * 4 + b]? = some ⟨45, 2, v (a * 4 + b), (w a b).length, lrs (w a b)⟩ := by
  rw [ownW_get _ _ (by omega)]
  rw [show (a * 4 + b) / 4 = a by omega, show (a * 4 + b) % 4 = b by omega]
theorem pushAll_len (p : Nat) : ∀ (outs : List Ho) (w : Nat → Nat → List Lr) (i j : Nat), (pushAll p w outs i j).length ≤ (w i j).length + outs.length
  | [], w, i, j => by show (w i j).length ≤ _; simp
  | o :: t, w, i, j => by
    have h := pushAll_len p t (pushO p w o) i j
    have h2 : (pushO p w o i j).length ≤ (w i j).length + 1 := by
      unfold pushO
      by_cases e : i = p ∧ j = (o.who - 1).toNat
      · obtain ⟨rfl, rfl⟩ := e
        rw [upd2_same, List.length_append]
        simp
      · rw [upd2_other _ _ e]
        omega
    show (pushAll p (pushO p w o) t i j).length ≤ _
    simp only [List.length_cons]
    omega
theorem Sta.olds {Wb w : World} {O : Nat → Prop} {q7 : Nat} {dp : Value} {ds : List Int} {B : List Blk} {L : List Ow} {R : List Rw} {o : Obj} (st : Sta Wb O dp ds B L R w) (hq : q7 < Wb.heap.size) (hp : ¬ pblk dp q7) : w.heap[q7]? = some o ↔ Wb.heap[q7]? = some o := by rw [st.fr.block q7 hq hp]
theorem Sta.nilRow {W : World} {O : Nat → Prop} {p : Value} {ds : List Int} {B : List Blk} {L : List Ow} {R : List Rw} {w : World} (h : Sta W O p ds B L R w) : Sta W O p ds B L (⟨none, 0, 0, []⟩ :: R) w :=
  ⟨h.fr, h.pl, h.dr, h.blk, h.nd, h.own, h.nl, h.nbl, fun x hx => by
    rcases List.mem_cons.1 hx with rfl | hx
    · exact ⟨Nat.le_refl _, by decide, fun j u hj => by simp at hj⟩
    · exact h.row x hx, fun x hx hn q hq => by
    rcases List.mem_cons.1 hx with rfl | hx
    · exact absurd rfl hn
    · exact h.far x hx hn q hq⟩
theorem hAsk_outs (h : Hd) (n : Int) (high : Bool) : (hAsk h n high).2.length ≤ 2 ∧ ∀ o ∈ (hAsk h n high).2, o.who = n := by
  unfold hAsk
  split
  · exact ⟨by simp, fun o ho => by rw [List.mem_singleton.1 ho]⟩
  · exact ⟨by simp, fun o ho => nomatch ho⟩
/-- a new row in a way's place -/
theorem Sta.way {W : World} {O : Nat → Prop} {p : Value} {ds : List Int} {B : List Blk} {R : List Rw} {wd : World} {w : Nat → Nat → List Lr} {v : Nat → Value} {u : Value} {l : List Lr} {k : Nat} {xs : List Value} {a b : Nat}
    (h : Sta W O p ds B (⟨45, 2, u, k, xs⟩ :: ownW (fun m => w (m / 4) (m % 4)) v) R wd) (hk : k = l.length) (hx : xs = lrs l) (ha : a < 4) (hb : b < 4) : Sta W O p ds B (ownW (fun m => upd2 w a b l (m / 4) (m % 4)) (upd v (a * 4 + b) u)) R wd := by
  subst hk hx
  have := h.replL (m := a * 4 + b) (by unfold ownW; rw [List.length_map, List.length_range]; omega)
  rw [flat_upd _ hb, ← ownW_set]
  exact this
theorem Sta.way2 {W : World} {O : Nat → Prop} {p : Value} {ds : List Int} {B : List Blk} {R : List Rw} {wd : World} {w : Nat → Nat → List Lr} {v : Nat → Value} {u1 u2 : Value} {l1 l2 : List Lr} {k1 k2 : Nat} {xs1 xs2 : List Value} {a b c d : Nat}
    (h : Sta W O p ds B (⟨45, 2, u2, k2, xs2⟩ :: ⟨45, 2, u1, k1, xs1⟩ :: ownW (fun m => w (m / 4) (m % 4)) v) R wd) (hk1 : k1 = l1.length) (hx1 : xs1 = lrs l1) (hk2 : k2 = l2.length) (hx2 : xs2 = lrs l2) (ha : a < 4) (hb : b < 4) (hc : c < 4) (hd : d < 4) :
    Sta W O p ds B (ownW (fun m => upd2 (upd2 w a b l1) c d l2 (m / 4) (m % 4)) (upd (upd v (a * 4 + b) u1) (c * 4 + d) u2)) R wd := by
  subst hk1 hx1
  have h1 := (h.permL (List.Perm.swap _ _ _)).replL (m := a * 4 + b + 1) (by unfold ownW; rw [List.length_cons, List.length_map, List.length_range]; omega)
  rw [List.set_cons_succ, ownW_set, ← flat_upd _ hb] at h1
  exact h1.way hk2 hx2 hc hd
theorem nBrk_len {n : Net} {a b : Nat} {N : Nat} (h : ∀ i j, (n.w i j).length ≤ N) : ∀ i j, ((nBreak n a b).w i j).length ≤ N + 1 := by
  intro i j
  unfold nBreak
  simp only
  by_cases e : i = b ∧ j = a
  · obtain ⟨rfl, rfl⟩ := e; rw [upd2_same]; simp
  · rw [upd2_other _ _ e]
    by_cases e2 : i = a ∧ j = b
    · obtain ⟨rfl, rfl⟩ := e2; rw [upd2_same]; simp
    · rw [upd2_other _ _ e2]; have := h i j; omega
theorem pop_len {w : Nat → Nat → List Lr} {a b : Nat} {N : Nat} {y : Lr} {t : List Lr} (h : ∀ i j, (w i j).length ≤ N) (hw : w a b = y :: t) : ∀ i j, (upd2 w a b t i j).length ≤ N := by
  intro i j
  by_cases e : i = a ∧ j = b
  · obtain ⟨rfl, rfl⟩ := e
    rw [upd2_same]
    have := h i j
    rw [hw] at this
    simp at this
    omega
  · rw [upd2_other _ _ e]; exact h i j
theorem SlA.tail2 {w : World} {g o n c : Nat} {y : Lr} {t : List Lr} (h : SlA w (some ⟨g, o, none⟩) n c (lrs (y :: t))) (hn : n = t.length + 1) : SlA w (some ⟨g, o + 2, none⟩) t.length (c - 1) (lrs t) := by
  have h1 := h.le
  have h2 := h.max
  refine ⟨by omega, by omega, fun j u hj => ?_⟩
  obtain ⟨b', o', e, hc'⟩ := h.cell (j + 2) u hj
  injection e with e
  injection e with e1 e2
  subst e1 e2
  exact ⟨_, _, rfl, by rw [Nat.add_assoc, Nat.add_comm 2 j]; exact hc'⟩
theorem Try.zeroLHLetter : (Try.prog.info? 45).map (fun i => (i.zero, i.size)) = some (some (.agg #[.int .i64 0, .bool false]), 2) := by kernel_rfl
theorem Try.infoLHLetter2 : (Try.prog.info? 45).map (·.size) = some 2 := by kernel_rfl
theorem hs_there {w : World} {q7 : Nat} {h : Nat → Hd} {x : Nat → HdP} (hb : w.heap[q7]? = some (.cells (hsArr h x) 32 (0, 0))) {i : Nat} (hi : i < 4) : w.there q7 (i * 7) 7 := there_at hb _ _ (by rw [hs_size]; omega)
end Go.Proofs.Ytelepohdfcjnfaa
