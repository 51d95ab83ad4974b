/-
  Four hands in one variable, sixteen ways in another: cells and rows.
-/
import Derived.Test.YtelepohdfcjnfaaNetLaw
import Derived.Test.YtelepohdfcjnfaaStaApp
import Derived.Test.YtelepohdfcjnfaaNoU
namespace Go.Proofs.Ytelepohdfcjnfaa
open Go.RowKit Go.Proofs

theorem four {i : Nat} (h : i < 4) : i = 0 ∨ i = 1 ∨ i = 2 ∨ i = 3 := by omega
/-- the cells of four hands -/
def hsArr (h : Nat → Hd) (x : Nat → HdP) : Array Value := (((h 0).arr (x 0)).toList ++ ((h 1).arr (x 1)).toList ++ ((h 2).arr (x 2)).toList ++ ((h 3).arr (x 3)).toList).toArray
theorem hs_size (h : Nat → Hd) (x : Nat → HdP) : (hsArr h x).size = 28 := rfl
theorem hs_get (h : Nat → Hd) (x : Nat → HdP) {i : Nat} (hi : i < 4) : ((hsArr h x).toList.drop (i * 7)).take 7 = ((h i).arr (x i)).toList := by
  rcases four hi with rfl | rfl | rfl | rfl <;> rfl
theorem hs_put (h : Nat → Hd) (x : Nat → HdP) {i : Nat} (hi : i < 4) (h' : Hd) (x' : HdP) : putAt (hsArr h x) (i * 7) (h'.arr x') = hsArr (upd h i h') (upd x i x') := by
  rcases four hi with rfl | rfl | rfl | rfl <;> rfl
/-- the cells of sixteen ways -/
def wsArr (v : Nat → Value) : Array Value := ((List.range 16).map v).toArray
theorem ws_size (v : Nat → Value) : (wsArr v).size = 16 := rfl
theorem ws_get (v : Nat → Value) {m : Nat} (hm : m < 16) : (wsArr v)[m]? = some (v m) := by
  unfold wsArr
  rw [List.getElem?_toArray, List.getElem?_map, List.getElem?_range hm]
  rfl
theorem set_map {α : Type} (f : Nat → α) (n m : Nat) (u : α) : ((List.range n).map f).set m u = (List.range n).map (upd f m u) := by
  apply List.ext_getElem
  · simp
  · intro k h1 h2
    simp only [List.getElem_set, List.getElem_map, List.getElem_range, upd]
    by_cases e : m = k
    · rw [if_pos e, if_pos e.symm]
    · rw [if_neg e, if_neg (fun x => e x.symm)]
theorem ws_put (v : Nat → Value) {m : Nat} (hm : m < 16) (u : Value) : putAt (wsArr v) m #[u] = wsArr (upd v m u) := by
  unfold putAt wsArr
  rw [← set_map v 16 m u, List.set_eq_take_append_cons_drop, if_pos (by simpa using hm)]
  rfl
theorem set_perm {α : Type} (l : List α) (m : Nat) (o : α) (h : m < l.length) : (l.set m o).Perm (o :: l.eraseIdx m) := by
  induction l generalizing m with
  | nil => exact absurd h (Nat.not_lt_zero _)
  | cons y t ih =>
    cases m with
    | zero => exact List.Perm.refl _
    | succ m =>
      rw [List.set_cons_succ, List.eraseIdx_cons_succ]
      exact ((ih m (by simpa using h)).cons y).trans (List.Perm.swap _ _ _)
/-- an own row in another's place -/
theorem Sta.permL {W : World} {O : Nat → Prop} {p : Value} {ds : List Int} {B : List Blk} {L L2 : List Ow} {R : List Rw} {w : World} (h : Sta W O p ds B L R w) (hp : L2.Perm L) : Sta W O p ds B L2 R w :=
  ⟨h.fr, h.pl, h.dr, h.blk, h.nd, fun o ho => h.own o (hp.mem_iff.1 ho), (hp.symm.pairwise h.nl (fun hxy k hk hk2 => hxy k hk2 hk)), fun x hx o ho => h.nbl x hx o (hp.mem_iff.1 ho), h.row, fun r hr hn q hq => by
    obtain ⟨h1, h2, h3, h4⟩ := h.far r hr hn q hq
    exact ⟨h1, h2, fun o ho => h3 o (hp.mem_iff.1 ho), h4⟩⟩
theorem Sta.replL {W : World} {O : Nat → Prop} {p : Value} {ds : List Int} {B : List Blk} {L : List Ow} {R : List Rw} {w : World} {o : Ow} (h : Sta W O p ds B (o :: L) R w) {m : Nat} (hm : m < L.length) : Sta W O p ds B (L.set m o) R w :=
  (h.less (List.Sublist.cons_cons _ (List.eraseIdx_sublist L m)) (fun _ h => h)).permL (set_perm L m o hm)
def lrs (l : List Lr) : List Value := l.flatMap fun y => [.int .i64 y.kind, .bool y.high]
theorem lrs_len (l : List Lr) : (lrs l).length = l.length * 2 := by
  induction l with
  | nil => rfl
  | cons y t ih => simp only [lrs, List.flatMap_cons, List.length_append, List.length_cons, List.length_nil] at ih ⊢; omega
/-- the rows of sixteen ways -/
def ownW (w : Nat → List Lr) (v : Nat → Value) : List Ow := (List.range 16).map fun m => ⟨45, 2, v m, (w m).length, lrs (w m)⟩
theorem ownW_get (w : Nat → List Lr) (v : Nat → Value) {m : Nat} (hm : m < 16) : (ownW w v)[m]? = some ⟨45, 2, v m, (w m).length, lrs (w m)⟩ := by
  unfold ownW
  rw [List.getElem?_map, List.getElem?_range hm]
  rfl
theorem ownW_set (w : Nat → List Lr) (v : Nat → Value) {m : Nat} (l : List Lr) (u : Value) : (ownW w v).set m ⟨45, 2, u, l.length, lrs l⟩ = ownW (upd w m l) (upd v m u) := by
  unfold ownW
  rw [set_map _ _ _ _]
  congr 1
  funext k
  unfold upd
  split <;> rfl
/-- the rows of four hands -/
def rowsN (h : Nat → Hd) (x : Nat → HdP) : List Rw := hrows (h 0) (x 0) (hrows (h 1) (x 1) (hrows (h 2) (x 2) (hrows (h 3) (x 3) [])))
theorem rowsN_in (h : Nat → Hd) (x : Nat → HdP) {i : Nat} (hi : i < 4) : ∀ r ∈ hrows (h i) (x i) [], r ∈ rowsN h x := by
  intro r hr
  simp only [rowsN, hrows, List.mem_cons, List.not_mem_nil, or_false] at hr ⊢
  rcases four hi with rfl | rfl | rfl | rfl
  all_goals
    rcases hr with rfl | rfl | rfl
    all_goals simp
theorem rowsN_of (h : Nat → Hd) (x : Nat → HdP) {i : Nat} (hi : i < 4) (h' : Hd) (x' : HdP) : ∀ r ∈ rowsN (upd h i h') (upd x i x'), r ∈ hrows h' x' (rowsN h x) := by
  intro r hr
  simp only [rowsN, hrows, List.mem_cons, List.not_mem_nil, or_false] at hr ⊢
  rcases four hi with rfl | rfl | rfl | rfl
  all_goals
    simp [upd] at hr
    grind
theorem flat_upd {α : Type} (w : Nat → Nat → α) {i j : Nat} (hj : j < 4) (l : α) : (fun m => upd2 w i j l (m / 4) (m % 4)) = upd (fun m => w (m / 4) (m % 4)) (i * 4 + j) l := by
  funext m
  by_cases e : m = i * 4 + j
  · subst e
    rw [upd_same, show (i * 4 + j) / 4 = i by omega, show (i * 4 + j) % 4 = j by omega, upd2_same]
  · rw [upd_other _ _ e, upd2_other]
    omega
theorem size_setCells (b : Nat) : ∀ (vs : List Value) (o : Nat) (w : World), (w.setCells b o vs).heap.size = w.heap.size
  | [], _, _ => rfl
  | v :: r, o, w => (size_setCells b r (o + 1) _).trans (by simp [World.setCell])
theorem DrawV.keepNo {b : Nat} {cs : Array Value} {T : TypeId} {fz : Nat × Nat} {p : Value} {ds : List Int} {w w' : World} (h : DrawV w p ds) (f : Fr (fun k => k = b) w w') (hp : ¬ pblk p b) (hb : w.heap[b]? = some (.cells cs T fz)) (hn : NoU32 cs) : DrawV w' p ds := by
  rcases h with ⟨rfl, rfl⟩ | ⟨d, rfl, a, cap, h1, h2, h3, h4, h5⟩
  · exact .nil w'
  · have hdq : d ≠ b := fun e => hp (by rw [e]; rfl)
    refine .inr ⟨d, rfl, a, cap, f.cell h1 hdq, (f.frozen h1 hdq).trans h2, ?_, h4, h5⟩
    exact dr_keep h3 f hb hn
/-- a store into a block that was there from the start: the start is another one -/
theorem Sta.rebase {W : World} {O : Nat → Prop} {p : Value} {ds : List Int} {B : List Blk} {L : List Ow} {R : List Rw} {w : World} (h : Sta W O p ds B L R w) {q : Nat} {cs vs : Array Value} {T : TypeId} (o : Nat)
    (hq : q < W.heap.size) (hp : ¬ pblk p q) (hb : w.heap[q]? = some (.cells cs T (0, 0))) (hn : NoU32 cs) (hl : o + vs.size ≤ cs.size) (hO : ∀ k, O k → k ≠ q) :
    ∃ W2, Fr (· = q) W W2 ∧ q < W2.heap.size ∧ (w.setCells q o vs.toList).heap[q]? = some (.cells (putAt cs o vs) T (0, 0)) ∧ Sta W2 O p ds B L R (w.setCells q o vs.toList) := by
  have f := fr_setCells q vs.toList o w
  have g := fr_setCells q vs.toList o W
  have hs := size_setCells q vs.toList o W
  have hbW : W.heap[q]? = some (.cells cs T (0, 0)) := by rw [← h.fr.block q hq hp]; exact hb
  have e1 := blk_put (vs := vs) hb hl
  have e2 := blk_put (vs := vs) hbW hl
  have no : ∀ o ∈ L, ∀ k, o.v.ownBlock = some k → k ≠ q := fun o ho k hk e => by
    have := (own_in (h.own o ho) hk).1
    omega
  refine ⟨W.setCells q o vs.toList, g, by rw [hs]; exact hq, e1, ?_⟩
  refine ⟨⟨f.os.trans (h.fr.os.trans g.os.symm), f.tape.trans (h.fr.tape.trans g.tape.symm), f.output.trans (h.fr.output.trans g.output.symm), by rw [hs, size_setCells]; exact h.fr.size, fun k hk hkp => ?_⟩, fun k hk => by rw [hs]; exact h.pl k hk, h.dr.keepNo f hp hb hn, fun x hx => ?_, h.nd, fun o ho => ?_, h.nl, h.nbl, fun r hr => ?_, fun r hr hn' a ha => ?_⟩
  · rw [hs] at hk
    by_cases e : k = q
    · subst e
      rw [e1, e2]
    · rw [f.block k (Nat.lt_of_lt_of_le hk h.fr.size) e, g.block k hk e]
      exact h.fr.block k hk hkp
  · obtain ⟨x1, x2⟩ := h.blk x hx
    exact ⟨blk_keep f x1 (by omega), by rw [hs]; exact x2⟩
  · rw [hs]
    exact own_fr (h.own o ho) f (fun k hk e => no o ho k hk e)
  · exact (h.row r hr).keepC f (fun hn' a ha e => by
      obtain ⟨-, -, -, h4⟩ := h.far r hr hn' a ha
      rcases h4 with h4 | h4
      · exact hO _ h4 e
      · omega)
  · obtain ⟨h1, h2, h3, h4⟩ := h.far r hr hn' a ha
    exact ⟨h1, h2, h3, by rw [hs]; exact h4⟩
/-- the start's rows are not asked about where nothing is held -/
theorem Sta.reO {W : World} {O O2 : Nat → Prop} {p : Value} {ds : List Int} {B : List Blk} {L : List Ow} {R : List Rw} {w : World} (h : Sta W O p ds B L R w) (hR : ∀ r ∈ R, r.cs = []) : Sta W O2 p ds B L R w :=
  ⟨h.fr, h.pl, h.dr, h.blk, h.nd, h.own, h.nl, h.nbl, h.row, fun r hr hn => absurd (hR r hr) hn⟩
theorem Sta.dropB {W : World} {O : Nat → Prop} {p : Value} {ds : List Int} {B B2 : List Blk} {L : List Ow} {R : List Rw} {w : World} (h : Sta W O p ds B L R w) (hB : B2.Sublist B) : Sta W O p ds B2 L R w :=
  ⟨h.fr, h.pl, h.dr, fun x hx => h.blk x (hB.subset hx), h.nd.sublist (hB.map _), h.own, h.nl, fun x hx => h.nbl x (hB.subset hx), h.row, fun r hr hn q hq => by
    obtain ⟨h1, h2, h3, h4⟩ := h.far r hr hn q hq
    exact ⟨h1, fun x hx => h2 x (hB.subset hx), h3, h4⟩⟩
theorem noU32_hs (h : Nat → Hd) (x : Nat → HdP) : NoU32 (hsArr h x) := by
  intro i z e
  have hm := Array.mem_of_getElem? e
  simp [hsArr] at hm
end Go.Proofs.Ytelepohdfcjnfaa
