/-
  New variables of struct type that are stored at once.
-/
import Derived.Test.YtelepohdfcjnfaaBlk
namespace Go.Proofs.Ytelepohdfcjnfaa
open Go.RowKit Go.Proofs

theorem fresh_store (w : World) (zs vs : Array Value) (e : TypeId) (hs : vs.size = zs.size) :
    Gr w ((w.alloc (.cells zs e)).setCells w.heap.size 0 vs.toList) ∧ ((w.alloc (.cells zs e)).setCells w.heap.size 0 vs.toList).heap[w.heap.size]? = some (.cells vs e (0, 0)) ∧
      w.heap.size < ((w.alloc (.cells zs e)).setCells w.heap.size 0 vs.toList).heap.size := by
  have hb : (w.alloc (.cells zs e)).heap[w.heap.size]? = some (.cells zs e (0, 0)) := by rw [heap_alloc_if, if_pos rfl]
  have h2 := blk_all hb vs hs
  refine ⟨?_, h2, ?_⟩
  · have f1 : Gr w (w.alloc (.cells zs e)) := (Fr.refl _ _).alloc _
    have f2 := fr_setCells w.heap.size vs.toList 0 (w.alloc (.cells zs e))
    have f3 : Fr (fun k => w.heap.size ≤ k) w ((w.alloc (.cells zs e)).setCells w.heap.size 0 vs.toList) := (Fr.mono (T := fun k => w.heap.size ≤ k) f1 (fun _ _ h => h.elim)).trans f2 (fun j h => .inl (by omega))
    exact f3.mono (fun k hk h => by omega)
  · have := (Array.getElem?_eq_some_iff.1 h2).1
    exact this

theorem exec_alloc {ty : TypeId} {i : TypeInfo} {zs : Array Value} (hi : Try.prog.info? ty = some i) (hz : i.zero = some (.agg zs)) (ρ : Operand → Value) (w : World) (dst : Option Tmp) (t : TypeId) (pos : String) (after : Array Edge) :
    (execOp ρ ⟨dst, .alloc ty, t, pos, after, none⟩).run Try.prog w = .ok (.value (.pointer (some ⟨w.heap.size, 0, none⟩))) (w.alloc (.cells zs ty)) := by
  have hv : (zeroValue ty).run Try.prog w = .ok (.agg zs) w := by
    unfold zeroValue typeInfo
    simp [go_sem, hi, hz]
  simp [go_sem, hv]

theorem wpList_fresh {ops : Array Oper} {rest : List Oper} {d : Tmp} {ty t1 t2 : TypeId} {p1 p2 : String} {e1 e2 : Array Edge} {x : Operand} {A : Act} {w : World} {Q : Exit → Act → World → Prop} {i : TypeInfo} {zs vs : Array Value}
    (hi : Try.prog.info? ty = some i) (hz : i.zero = some (.agg zs)) (hs : (Try.prog.info? ty).map (·.size) = some vs.size) (hsz : vs.size = zs.size) (h1 : vs.all (·.oneCell') = true)
    (hd : (A.put (some d) (.pointer (some ⟨w.heap.size, 0, none⟩))).eval (.tmp d) = .pointer (some ⟨w.heap.size, 0, none⟩))
    (hx : (A.put (some d) (.pointer (some ⟨w.heap.size, 0, none⟩))).eval x = .agg vs)
    (h : ∀ w3, Gr w w3 → w3.heap[w.heap.size]? = some (.cells vs ty (0, 0)) → w.heap.size < w3.heap.size → wpList Try.prog ops Q rest ((A.put (some d) (.pointer (some ⟨w.heap.size, 0, none⟩))).put none undef) w3) :
    wpList Try.prog ops Q (⟨some d, .alloc ty, t1, p1, e1, none⟩ :: ⟨none, .store ty (.tmp d) x, t2, p2, e2, none⟩ :: rest) A w := by
  refine wpList_plain rfl fun K hK => ?_
  unfold Oper.wp
  rw [exec_alloc hi hz]
  refine hK _ _ ?_
  obtain ⟨f, b, l⟩ := fresh_store w zs vs ty hsz
  have hb : (w.alloc (.cells zs ty)).heap[w.heap.size]? = some (.cells zs ty (0, 0)) := by rw [heap_alloc_if, if_pos rfl]
  exact wpList_store_mid rfl ty (.tmp d) x rfl w.heap.size 0 vs hd hx (blk_there hb _ (by omega)) hs h1 (h _ f b l)

theorem exec_indexAddr {ty e : TypeId} {i : TypeInfo} {sz : Nat} (hu : Try.prog.underlying ty = some (.slice e)) (hi : Try.prog.info? e = some i) (hz : i.size = sz) (ρ : Operand → Value) (x y : Operand) (w : World) (dst : Option Tmp) (t : TypeId) (pos : String) (after : Array Edge)
    {b o n cap k : Nat} (hx : ρ x = .slice (some ⟨b, o, none⟩) n cap) (hy : ρ y = .int .i64 k) (hk : k < n) :
    (execOp ρ ⟨dst, .indexAddr ty x y, t, pos, after, none⟩).run Try.prog w = .ok (.value (.pointer (some ⟨b, o + k * sz, none⟩))) w := by
  have hs : (sizeOf e).run Try.prog w = .ok sz w := by
    unfold sizeOf typeInfo
    simp [go_sem, hi, hz]
  have h1 : (0 : Int) ≤ (k : Int) ∧ (k : Int) < (n : Int) := by omega
  simp only [execOp]
  unfold Instr.indexAt
  simp only [hx, hy]
  simp [go_sem, run_underlying hu, hs, asIntOf, Addr.add, hk]
theorem wpList_indexAddr {ops : Array Oper} {rest : List Oper} {dst : Option Tmp} {ty e t : TypeId} {pos : String} {after : Array Edge} {x y : Operand} {A : Act} {w : World} {Q : Exit → Act → World → Prop} {i : TypeInfo} {sz : Nat} {b o n cap k : Nat}
    (hu : Try.prog.underlying ty = some (.slice e)) (hi : Try.prog.info? e = some i) (hz : i.size = sz) (hx : A.eval x = .slice (some ⟨b, o, none⟩) n cap) (hy : A.eval y = .int .i64 k) (hk : k < n)
    (h : wpList Try.prog ops Q rest (A.put dst (.pointer (some ⟨b, o + k * sz, none⟩))) w) : wpList Try.prog ops Q (⟨dst, .indexAddr ty x y, t, pos, after, none⟩ :: rest) A w := by
  refine wpList_plain rfl fun K hK => ?_
  unfold Oper.wp
  rw [exec_indexAddr hu hi hz A.eval x y w dst t pos after hx hy hk]
  exact hK _ _ h
theorem wpList_move {ops : Array Oper} {rest : List Oper} {dst : Option Tmp} {ty : TypeId} {pos : String} {after : Array Edge} {x : Operand} {A : Act} {w : World} {Q : Exit → Act → World → Prop}
    (h : wpList Try.prog ops Q rest (A.put dst (A.eval x)) w) : wpList Try.prog ops Q (⟨dst, .move x, ty, pos, after, none⟩ :: rest) A w := by
  refine wpList_plain rfl fun K hK => ?_
  unfold Oper.wp
  have e : (execOp A.eval ⟨dst, .move x, ty, pos, after, none⟩).run Try.prog w = .ok (.value (A.eval x)) w := by simp [go_sem]
  rw [e]
  exact hK _ _ h
theorem mk_cat (a b : List UInt8) : (⟨a.toArray⟩ : ByteArray) ++ ⟨b.toArray⟩ = ⟨(a ++ b).toArray⟩ := by apply ByteArray.ext; simp
end Go.Proofs.Ytelepohdfcjnfaa
