/-
  The state of OverlayJoins' walk (printed by gen_ojst.py).
-/
import Derived.Test.YtelepohdfcjnfaaZOvBk
import Derived.Test.YtelepohdfcjnfaaZJoinLaw
import Derived.Test.YtelepohdfcjnfaaZOwn
import Derived.Laws.OwnMore
namespace Go.Proofs.Ytelepohdfcjnfaa
open Go.RowKit Go.Proofs

/-- the addresses of the overlays, in a row -/
def ptrL (bo : Nat → Nat) (k : Nat) : List Value := (List.range k).map fun i => .pointer (some ⟨bo i, 0, none⟩)
theorem ptrL_len (bo : Nat → Nat) (k : Nat) : (ptrL bo k).length = k := by unfold ptrL; simp
theorem ptrL_get {bo : Nat → Nat} {i k : Nat} (hi : i < k) : (ptrL bo k)[i]? = some (.pointer (some ⟨bo i, 0, none⟩)) := by
  unfold ptrL
  rw [List.getElem?_map, List.getElem?_range hi]
  rfl
theorem ptrL_push (bo : Nat → Nat) (k g : Nat) : ptrL (upd bo k g) (k + 1) = ptrL bo k ++ [.pointer (some ⟨g, 0, none⟩)] := by
  unfold ptrL
  rw [List.range_succ, List.map_append]
  congr 1
  · refine List.map_congr_left (fun i hi => ?_)
    have : i ≠ k := by have := List.mem_range.1 hi; omega
    rw [upd_other _ _ this]
  · simp [upd_same]
/-- who had an active one, in a row -/
def bools (had : Nat → Bool) (n : Nat) : List Value := (List.range n).map fun i => .bool (had i)
theorem bools_get {had : Nat → Bool} {i n : Nat} (hi : i < n) : (bools had n)[i]? = some (.bool (had i)) := by
  unfold bools
  rw [List.getElem?_map, List.getElem?_range hi]
  rfl
theorem bools_set (had : Nat → Bool) (n i : Nat) (c : Bool) : (bools had n).set i (.bool c) = bools (upd had i c) n := by
  unfold bools
  rw [set_mapO]
  congr 1
  funext j
  unfold upd
  split <;> rfl
theorem made_bools (n : Nat) : (madeCells (Value.bool false).cells (n * 1)).toList = bools (fun _ => false) n := by
  apply List.ext_getElem
  · simp [size_madeCells, bools]
  · intro i h1 h2
    simp [madeCells, bools, Value.cells, Nat.mod_one]
section
variable {W : World} {O : Nat → Prop} {p : Value} {ds : List Int} {B : List Blk} {L : List Ow} {R : List Rw} {w : World}
/-- a new row of Bools -/
theorem wpList_makeB {ops : Array Oper} {rest : List Oper} {o : Oper} {A : Act} {Q : Exit → Act → World → Prop} (hgd : o.guard = none) (t e : TypeId) (x y : Operand) (ho : o.op = .makeSlice t x y) (hu : Try.prog.underlying t = some (.slice e))
    (hinf : (Try.prog.info? e).map (fun i => (i.zero, i.size, i.bytes)) = some (some (.bool false), 1, 1)) {n : Nat} (hn : n ≤ 1000) (hx : A.eval x = .int .i64 n) (hy : A.eval y = .int .i64 n) (ST : Sta W O p ds B L R w) (hT : NoT e)
    (h : ∀ g w', Sta W O p ds B (⟨e, 1, .slice (some ⟨g, 0, none⟩) n n, n, bools (fun _ => false) n⟩ :: L) R w' → wpList Try.prog ops Q rest (A.put o.dst (.slice (some ⟨g, 0, none⟩) n n)) w') : wpList Try.prog ops Q (o :: rest) A w := by
  obtain ⟨i, hi1, hi2, hi3, hi4⟩ := info_parts hinf
  obtain ⟨w', hr, hown, hg⟩ := run_makeSlice_full (P := Try.prog) w w.heap.size t e i (.bool false) 1 hu hi1 hi2 hi3 .i64 .i64 n (by omega) (by rw [hi4]; omega) (by unfold maxLen; omega) (Nat.le_refl _)
  rw [made_bools] at hown
  have f : Gr w w' := Fr.grown (Fr.refl _ _) hg (fun q hq => by cases hq)
  refine wpList_plain hgd fun K hK => ?_
  have he : (execOp A.eval o).run Try.prog w = .ok (.value (.slice (some ⟨w.heap.size, 0, none⟩) n n)) w' := by
    unfold execOp
    simp only [ho, hx, hy, Sem.run_bind, hr, Result.andThen_ok, Sem.run_pure]
  unfold Oper.wp
  rw [he]
  exact hK _ _ (h _ _ (ST.ownIn f hown hT))
end
/-- the letters of a queue, and who sent them -/
abbrev En := Nat × Om
def ofE (E : List En) : List (Nat × Ms) := E.map (fun e => (e.1, e.2.m))
def froms (E : List En) : List Value := E.map (fun e => .int .i64 ((e.1 : Int) + 1))
theorem froms_len (E : List En) : (froms E).length = E.length := by unfold froms; simp
theorem ofE_app (E F : List En) : ofE (E ++ F) = ofE E ++ ofE F := by unfold ofE; rw [List.map_append]
theorem ofE_from (p : Nat) (l : List Om) : ofE (l.map (fun y => (p, y))) = from_ p (l.map Om.m) := by
  unfold ofE from_
  rw [List.map_map, List.map_map]
  rfl
theorem ofE_drop {E : List En} {k : Nat} (h : k < E.length) : ofE (E.drop k) = ((E[k]).1, (E[k]).2.m) :: ofE (E.drop (k + 1)) := by
  rw [List.drop_eq_getElem_cons h]
  rfl
/-- the overlays' rows are there -/
def OjRows (N : Nat) (o : Nat → Ov) (x : Nat → OvP) (R : List Rw) : Prop := ∀ i, i < N → ∀ r ∈ orows (o i) (x i) [], r ∈ R
theorem OjRows.put {N : Nat} {o : Nat → Ov} {x : Nat → OvP} {R R2 : List Rw} (h : OjRows N o x R) {a : Nat} {o' : Ov} {x' : OvP} (h1 : ∀ r ∈ orows o' x' [], r ∈ R2) (h2 : ∀ r ∈ R, r ∈ R2) : OjRows N (upd o a o') (upd x a x') R2 := fun i hi r hr => by
  by_cases e : i = a
  · subst e
    rw [upd_same, upd_same] at hr
    exact h1 r hr
  · rw [upd_other _ _ e, upd_other _ _ e] at hr
    exact h2 r (h i hi r hr)
/-- between the rounds -/
def OjSt (W : World) (N : Nat) (dp : Value) (bo : Nat → Nat) (ap : Option Addr) (cp : Nat) (w : World) : Prop :=
  ∃ (o : Nat → Ov) (x : Nat → OvP) (ds : List Int) (R : List Rw), JI N o [] ∧ OjRows N o x R ∧ (⟨ap, N, cp, ptrL bo N⟩ : Rw) ∈ R ∧ Sta W (fun _ => True) dp ds (ovB N bo o x) [] R w
/-- while they tick: i of them have ticked -/
def OjT (W : World) (N : Nat) (dp : Value) (bo : Nat → Nat) (ap : Option Addr) (cp : Nat) (i : Nat) (v12 v13 v14 : Value) (w : World) : Prop :=
  ∃ (o : Nat → Ov) (x : Nat → OvP) (ds : List Int) (R : List Rw) (E : List En) (had : Nat → Bool), Tp N i o (ofE E) had ∧ OjRows N o x R ∧ (⟨ap, N, cp, ptrL bo N⟩ : Rw) ∈ R ∧ (∀ e ∈ E, e.2.row ∈ R) ∧
    Sta W (fun _ => True) dp ds (ovB N bo o x) [⟨55, 8, v12, E.length, oms (E.map Prod.snd)⟩, ⟨3, 1, v13, E.length, froms E⟩, ⟨4, 1, v14, N, bools had N⟩] R w
/-- while they take: k letters are taken -/
def OjK (W : World) (N : Nat) (dp : Value) (bo : Nat → Nat) (ap : Option Addr) (cp : Nat) (k : Nat) (v12 v13 v14 : Value) (w : World) : Prop :=
  ∃ (o : Nat → Ov) (x : Nat → OvP) (ds : List Int) (R : List Rw) (E : List En) (had : Nat → Bool), k ≤ E.length ∧ Kp N k o (ofE (E.drop k)) had ∧ OjRows N o x R ∧ (⟨ap, N, cp, ptrL bo N⟩ : Rw) ∈ R ∧ (∀ e ∈ E, e.2.row ∈ R) ∧
    Sta W (fun _ => True) dp ds (ovB N bo o x) [⟨55, 8, v12, E.length, oms (E.map Prod.snd)⟩, ⟨3, 1, v13, E.length, froms E⟩, ⟨4, 1, v14, N, bools had N⟩] R w
/-- what was had in a round -/
def OjC (W : World) (N : Nat) (dp : Value) (bo : Nat → Nat) (ap : Option Addr) (cp : Nat) (v14 : Value) (w : World) : Prop :=
  ∃ (o : Nat → Ov) (x : Nat → OvP) (ds : List Int) (R : List Rw) (had : Nat → Bool), JI N o [] ∧ (∀ j, j < N → had j = true) ∧ OjRows N o x R ∧ (⟨ap, N, cp, ptrL bo N⟩ : Rw) ∈ R ∧
    Sta W (fun _ => True) dp ds (ovB N bo o x) [⟨4, 1, v14, N, bools had N⟩] R w
theorem Try.infoPOv : (Try.prog.info? 59).map (fun i => (i.zero, i.size, i.bytes)) = some (some (.pointer none), 1, 8) := by kernel_rfl
theorem Try.infoBoolB : (Try.prog.info? 4).map (fun i => (i.zero, i.size, i.bytes)) = some (some (.bool false), 1, 1) := by kernel_rfl
end Go.Proofs.Ytelepohdfcjnfaa
