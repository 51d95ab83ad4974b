/-
  A region of a deferred closure that begins with recover: the rest of it is walked as any other.
-/
import Derived.Test.YtoniebocphjmgaaRegionX
import Derived.Defers
import Derived.Recover
namespace Go.Proofs.Ytoniebocphjmgaa
open Go.RowKit Go.Proofs

theorem wpOpsS_of_ops {P : Program} {ops : Array Oper} {Q : Exit → Act → List Frame → World → Prop} {cs : List Frame} (hL : ¬ LetsOut fun e a w => Q e a cs w) :
    ∀ (l : List Nat) (a : Act) (w : World), wpOps P ops (fun e a w => Q e a cs w) l a w → wpOpsS P ops Q l a cs w := by
  intro l
  induction l with
  | nil => intro a w h; exact h
  | cons i rest ih =>
    intro a w h
    simp only [wpOps] at h
    simp only [wpOpsS]
    split at h
    · next ho => simp only [ho]; exact ih _ _ h
    · next o ho =>
      simp only [ho]
      split at h
      · next hw =>
        rw [if_pos hw]
        rcases h with h | ⟨_, h⟩
        · unfold Oper.wp at h
          generalize (execOp a.eval o).run P w = r at h
          split
          · exact h.elim
          · exact upon_imp (fun a w h => ih a w h) (fun c w h => h) (fun h => h) h
        · exact absurd h hL
      · next hw => rw [if_neg hw]; exact ih _ _ h

theorem wpS_region_recover {P : Program} {Q : Exit → Act → List Frame → World → Prop} {id : Nat} {o : Oper} {l : List Oper} {a : Act} {cs cs' : List Frame} {w : World} {v : Value} (hg : o.guard = none) (ho : (execOp a.eval o).run P w = .ok .recover w)
    (hrec : recoverD cs = some (v, cs')) (hL : ¬ LetsOut fun e a w => Q e a cs' w) (h : wpList P (o :: l).toArray (fun e a' w' => Q e a' cs' w') l (a.put o.dst v) w) : (Code.region id (o :: l).toArray false).wpS P Q a cs w := by
  apply wpS_region
  have hr : List.range (o :: l).toArray.size = 0 :: List.range' 1 l.length := by
    simp [List.range_eq_range', List.range'_succ]
  rw [hr]
  have h0 : (o :: l).toArray[0]? = some o := by simp
  have hwt : Region.wanted o (yielded (o :: l).toArray a.tmps) = true := by simp [Region.wanted, hg]
  simp only [wpOpsS, h0, hwt, if_true, ho, hrec]
  refine wpOpsS_of_ops hL _ _ _ ?_
  rw [wpOps_eq_wpList l 1 (by intro j; simp [Nat.add_comm])]
  exact h
end Go.Proofs.Ytoniebocphjmgaa
