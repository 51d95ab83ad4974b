/-
  Words of the walk of OverlayPairs: five overlays, twenty-five ways.
-/
import Derived.Test.YtelepohdfcjnfaaGreatZOvLaw
import Derived.Test.YtelepohdfcjnfaaGreatZOverTake
import Derived.Test.YtelepohdfcjnfaaGreatZOvSpk
import Derived.Test.YtelepohdfcjnfaaGreatZViewSn
import Derived.Test.YtelepohdfcjnfaaGreatZMsgWrite
import Derived.Test.YtelepohdfcjnfaaGreatZOwn
namespace Go.Proofs.YtelepohdfcjnfaaGreat
section
open Go.RowKit Go.Proofs

theorem set_mapO {α : Type} (f : Nat → α) (n m : Nat) (u : α) : ((List.range n).map f).set m u = (List.range n).map (upd f m u) := by
  apply List.ext_getElem
  · simp
  · intro k h1 h2
    simp only [List.getElem_set, List.getElem_map, List.getElem_range, upd]
    by_cases e : m = k
    · rw [if_pos e, if_pos e.symm]
    · rw [if_neg e, if_neg (fun x => e x.symm)]
theorem set_permO {α : Type} (l : List α) (m : Nat) (o : α) (h : m < l.length) : (l.set m o).Perm (o :: l.eraseIdx m) := by
  induction l generalizing m with
  | nil => exact absurd h (Nat.not_lt_zero _)
  | cons y t ih =>
    cases m with
    | zero => exact List.Perm.refl _
    | succ m =>
      rw [List.set_cons_succ, List.eraseIdx_cons_succ]
      exact ((ih m (by simpa using h)).cons y).trans (List.Perm.swap _ _ _)
section
variable {W : World} {O : Nat → Prop} {p : Value} {ds : List Int} {B X : List Blk} {L L2 : List Ow} {R : List Rw} {w w' : World}
/-- a draw that is made later -/
theorem Sta.drawn (h : Sta W O (.pointer none) [] B L R w) (f : Gr w w') (d : DrawV w' p ds) (hp : ∀ k, pblk p k → w.heap.size ≤ k) : Sta W O p ds B L R w' := by
  have k := h.gr f
  refine ⟨Fr.mono (T := pblk p) k.fr (fun k _ h => absurd h (pn_no k)), k.ty, d, k.blk, k.nd, k.own, k.nl, k.nbl, k.row, fun r hr hn q hq => ?_⟩
  obtain ⟨-, h2, h3, h4⟩ := k.far r hr hn q hq
  exact ⟨fun e => by have h5 := hp _ e; have h6 := (h.row r hr).ltC hn hq; omega, h2, h3, h4⟩
theorem Sta.permL (h : Sta W O p ds B L R w) (hp : L2.Perm L) : Sta W O p ds B L2 R w :=
  ⟨h.fr, ⟨h.ty.1, fun o ho => h.ty.2 o (hp.mem_iff.1 ho)⟩, h.dr, h.blk, h.nd, fun o ho => h.own o (hp.mem_iff.1 ho), (hp.symm.pairwise h.nl (fun hxy k hk hk2 => hxy k hk2 hk)), fun x hx o ho => h.nbl x hx o (hp.mem_iff.1 ho), h.row, fun r hr hn q hq => by
    obtain ⟨h1, h2, h3, h4⟩ := h.far r hr hn q hq
    exact ⟨h1, h2, fun o ho => h3 o (hp.mem_iff.1 ho), h4⟩⟩
theorem Sta.replL {o : Ow} (h : Sta W O p ds B (o :: L) R w) {m : Nat} (hm : m < L.length) : Sta W O p ds B (L.set m o) R w :=
  (h.less (List.Sublist.cons_cons _ (List.eraseIdx_sublist L m)) (fun _ h => h)).permL (set_permO L m o hm)
/-- the overlays' blocks -/
def ovB (N : Nat) (bo : Nat → Nat) (o : Nat → Ov) (x : Nat → OvP) : List Blk := (List.range N).map fun i => ⟨bo i, (o i).arr (x i), 103⟩
theorem ovB_set {N : Nat} {bo : Nat → Nat} {o : Nat → Ov} {x : Nat → OvP} {a : Nat} (o' : Ov) (x' : OvP) : (ovB N bo o x).set a ⟨bo a, o'.arr x', 103⟩ = ovB N bo (upd o a o') (upd x a x') := by
  unfold ovB
  rw [set_mapO]
  congr 1
  funext i
  unfold upd
  split
  · rename_i e; rw [e]
  · rfl
theorem Sta.ovIn {N : Nat} {bo : Nat → Nat} {o : Nat → Ov} {x : Nat → OvP} {a : Nat} (h : Sta W O p ds (X ++ ovB N bo o x) L R w) (ha : a < N) (hR : ∀ r ∈ orows (o a) (x a) [], r ∈ R) :
    Sta W O p ds (⟨bo a, (o a).arr (x a), 103⟩ :: (X ++ (ovB N bo o x).eraseIdx a)) L (orows (o a) (x a) R) w := by
  have e := ovB_set (N := N) (bo := bo) (o := o) (x := x) (a := a) (o a) (x a)
  have e2 : upd o a (o a) = o := by funext i; unfold upd; split <;> simp_all
  have e3 : upd x a (x a) = x := by funext i; unfold upd; split <;> simp_all
  rw [e2, e3] at e
  have hp := set_permO (ovB N bo o x) a ⟨bo a, (o a).arr (x a), 103⟩ (by unfold ovB; simpa using ha)
  rw [e] at hp
  refine (h.permB ((List.perm_middle.symm.trans ?_))).less (List.Sublist.refl _) (fun r hr => ?_)
  · exact (hp.symm).append_left X
  · simp only [orows, hrows, vrows, List.mem_cons] at hr hR
    rcases hr with rfl | rfl | rfl | rfl | hr
    · exact hR _ (by simp)
    · exact hR _ (by simp)
    · exact hR _ (by simp)
    · exact hR _ (by simp)
    · exact hr
theorem Sta.ovOut {N : Nat} {bo : Nat → Nat} {o : Nat → Ov} {x : Nat → OvP} {a : Nat} {o' : Ov} {x' : OvP} (h : Sta W O p ds (⟨bo a, o'.arr x', 103⟩ :: (X ++ (ovB N bo o x).eraseIdx a)) L R w) (ha : a < N) : Sta W O p ds (X ++ ovB N bo (upd o a o') (upd x a x')) L R w := by
  have hp := set_permO (ovB N bo o x) a ⟨bo a, o'.arr x', 103⟩ (by unfold ovB; simpa using ha)
  rw [ovB_set] at hp
  exact h.permB ((hp.append_left X).trans List.perm_middle)
end
/-- many cells in a variable -/
def wsN (k : Nat) (v : Nat → Value) : Array Value := ((List.range k).map v).toArray
theorem wsN_size (k : Nat) (v : Nat → Value) : (wsN k v).size = k := by unfold wsN; simp
theorem wsN_get {k : Nat} (v : Nat → Value) {m : Nat} (hm : m < k) : (wsN k v)[m]? = some (v m) := by
  unfold wsN
  rw [List.getElem?_toArray, List.getElem?_map, List.getElem?_range hm]
  rfl
theorem wsN_put {k : Nat} (v : Nat → Value) {m : Nat} (hm : m < k) (u : Value) : putAt (wsN k v) m #[u] = wsN k (upd v m u) := by
  unfold putAt wsN
  rw [← set_mapO v k m u, List.set_eq_take_append_cons_drop, if_pos (by simpa using hm)]
  rfl
theorem flat_updN {α : Type} {N : Nat} (w : Nat → Nat → α) {i j : Nat} (hj : j < N) (l : α) : (fun m => upd2 w i j l (m / N) (m % N)) = upd (fun m => w (m / N) (m % N)) (i * N + j) l := by
  have hN : 0 < N := by omega
  funext m
  by_cases e : m = i * N + j
  · subst e
    rw [upd_same, Nat.mul_comm i N, Nat.mul_add_div hN, Nat.mul_add_mod, Nat.div_eq_of_lt hj, Nat.mod_eq_of_lt hj, Nat.add_zero, upd2_same]
  · rw [upd_other _ _ e, upd2_other]
    rintro ⟨h1, h2⟩
    apply e
    have := Nat.div_add_mod m N
    rw [h1, h2, Nat.mul_comm] at this
    exact this.symm
/-- a letter where it lies -/
structure Ol where
  brk : Bool
  m : Mq
  na : Option Addr
  nc : Nat
def Ol.cells (x : Ol) : List Value := [.bool x.brk, .int .i64 x.m.kind, .int .i64 x.m.node, .int .i64 x.m.walk, .bool x.m.high, .slice x.na x.m.nodes.length x.nc, .slice none 0 0, .slice none 0 0]
def Ol.tell (x : Ol) : OLet := if x.brk = true then none else some x.m
def Ol.row (x : Ol) : Rw := ⟨x.na, x.m.nodes.length, x.nc, ints x.m.nodes⟩
def ols (l : List Ol) : List Value := l.flatMap Ol.cells
theorem ols_len (l : List Ol) : (ols l).length = l.length * 8 := by
  induction l with
  | nil => rfl
  | cons x r ih => rw [ols, List.flatMap_cons, List.length_append, List.length_cons]; unfold ols at ih; rw [ih]; simp [Ol.cells]; omega
theorem ols_one (l : List Ol) : (ols l).all (·.oneCell') = true := by
  rw [List.all_eq_true]
  intro u hu
  obtain ⟨x, -, hx⟩ := List.mem_flatMap.1 hu
  simp only [Ol.cells, List.mem_cons, List.not_mem_nil, or_false] at hx
  rcases hx with rfl | rfl | rfl | rfl | rfl | rfl | rfl | rfl <;> rfl
theorem ols_snoc (l : List Ol) (y : Ol) : ols (l ++ [y]) = ols l ++ y.cells := by simp [ols]
/-- the rows of the ways -/
def ownO (ws : Nat → List Ol) (v : Nat → Value) : List Ow := (List.range 25).map fun m => ⟨78, 8, v m, (ws m).length, ols (ws m)⟩
theorem ownO_at (ws : Nat → Nat → List Ol) (v : Nat → Value) {a b : Nat} (ha : a < 5) (hb : b < 5) : (ownO (fun m => ws (m / 5) (m % 5)) v)[a * 5 + b]? = some ⟨78, 8, v (a * 5 + b), (ws a b).length, ols (ws a b)⟩ := by
  unfold ownO
  rw [List.getElem?_map, List.getElem?_range (by omega)]
  simp only [Option.map_some]
  rw [show (a * 5 + b) / 5 = a by omega, show (a * 5 + b) % 5 = b by omega]
theorem ownO_set (w : Nat → List Ol) (v : Nat → Value) {m : Nat} (l : List Ol) (u : Value) : (ownO w v).set m ⟨78, 8, u, l.length, ols l⟩ = ownO (upd w m l) (upd v m u) := by
  unfold ownO
  rw [set_mapO]
  congr 1
  funext k
  unfold upd
  split <;> rfl
theorem Sta.wayO {W : World} {O : Nat → Prop} {p : Value} {ds : List Int} {B : List Blk} {R : List Rw} {wd : World} {w : Nat → Nat → List Ol} {v : Nat → Value} {u : Value} {l : List Ol} {k : Nat} {xs : List Value} {a b : Nat}
    (h : Sta W O p ds B (⟨78, 8, u, k, xs⟩ :: ownO (fun m => w (m / 5) (m % 5)) v) R wd) (hk : k = l.length) (hx : xs = ols l) (ha : a < 5) (hb : b < 5) : Sta W O p ds B (ownO (fun m => upd2 w a b l (m / 5) (m % 5)) (upd v (a * 5 + b) u)) R wd := by
  subst hk hx
  have := h.replL (m := a * 5 + b) (by unfold ownO; rw [List.length_map, List.length_range]; omega)
  rw [flat_updN _ hb, ← ownO_set]
  exact this
theorem Sta.way2O {W : World} {O : Nat → Prop} {p : Value} {ds : List Int} {B : List Blk} {R : List Rw} {wd : World} {w : Nat → Nat → List Ol} {v : Nat → Value} {u1 u2 : Value} {l1 l2 : List Ol} {k1 k2 : Nat} {xs1 xs2 : List Value} {a b c d : Nat}
    (h : Sta W O p ds B (⟨78, 8, u2, k2, xs2⟩ :: ⟨78, 8, u1, k1, xs1⟩ :: ownO (fun m => w (m / 5) (m % 5)) v) R wd) (hk1 : k1 = l1.length) (hx1 : xs1 = ols l1) (hk2 : k2 = l2.length) (hx2 : xs2 = ols l2) (ha : a < 5) (hb : b < 5) (hc : c < 5) (hd : d < 5) :
    Sta W O p ds B (ownO (fun m => upd2 (upd2 w a b l1) c d l2 (m / 5) (m % 5)) (upd (upd v (a * 5 + b) u1) (c * 5 + d) u2)) R wd := by
  subst hk1 hx1
  have h1 := (h.permL (List.Perm.swap _ _ _)).replL (m := a * 5 + b + 1) (by unfold ownO; rw [List.length_cons, List.length_map, List.length_range]; omega)
  rw [List.set_cons_succ, ownO_set, ← flat_updN _ hb] at h1
  exact h1.wayO hk2 hx2 hc hd
theorem SlA.tail8 {w : World} {g o n c : Nat} {y : Ol} {t : List Ol} (h : SlA w (some ⟨g, o, none⟩) n c (ols (y :: t))) (hn : n = t.length + 1) : SlA w (some ⟨g, o + 8, none⟩) t.length (c - 1) (ols t) := by
  have h1 := h.le
  have h2 := h.max
  refine ⟨by omega, by omega, fun j u hj => ?_⟩
  obtain ⟨b', o', e, hc'⟩ := h.cell (j + 8) u hj
  injection e with e
  injection e with e1 e2
  subst e1 e2
  exact ⟨_, _, rfl, by rw [Nat.add_assoc, Nat.add_comm 8 j]; exact hc'⟩
/-- such a message has an encoding -/
def Mq.msg (m : Mq) : Msg := ⟨m.kind, m.node, m.walk, m.high, m.nodes, [], []⟩
theorem flatMap_two (l : List Int) : (l.flatMap (numB 2)).length = l.length * 2 := by
  induction l with
  | nil => rfl
  | cons x r ih => rw [List.flatMap_cons, List.length_append, ih, numB_length, List.length_cons]; omega
theorem encQ_any {N : Nat} (hN : N ≤ 65535) (m : Mq) (a : Option Addr) (c : Nat) (W : World) (hm : MOk N m) (h : SlA W a m.nodes.length c (ints m.nodes)) :
    Calls Tryz.prog 22 #[.agg (m.arr a c)] W fun e w' => ∃ s, e = .returned (.tuple #[.string s, .int .i64 0]) ∧ Gr W w' := by
  have hmay : m.msg.may = true := by
    obtain ⟨⟨k1, k2⟩, ⟨n1, n2⟩, -, ⟨w1, w2⟩, hl, hn⟩ := hm
    have e1 : m.nodes.all (fun n => inR n 1 65535) = true := List.all_eq_true.2 (fun x hx => inR_iff.2 (by have := hn x hx; omega))
    unfold Msg.may Mq.msg
    simp only
    rw [inR_iff.2 (show 1 ≤ m.kind ∧ m.kind ≤ 14 by omega), inR_iff.2 (show 0 ≤ m.node ∧ m.node ≤ 65535 by omega), inR_iff.2 (show 0 ≤ m.walk ∧ m.walk ≤ 15 by omega), e1, decide_eq_true hl]
    rfl
  have hlen : m.msg.enc.length ≤ 4096 := by
    have := hm.len
    unfold Msg.enc Mq.msg
    simp only [List.length_append, numB_length, flatMap_two, List.flatMap_nil, List.length_nil]
    omega
  have hc : m.msg.code = 0 := by
    unfold Msg.code
    rw [if_pos hmay, if_neg (by omega)]
  have hat : MsgAt W m.msg ⟨a, c, none, 0, none, 0⟩ := ⟨by
    have e : m.nodes.flatMap MInt.cells = ints m.nodes := by
      generalize m.nodes = l
      induction l with
      | nil => rfl
      | cons x r ih => rw [List.flatMap_cons, ih]; rfl
    show SlA W a m.nodes.length c (m.nodes.flatMap MInt.cells)
    rw [e]
    exact h, SlA.nil W, SlA.nil W⟩
  refine (encode_any m.msg ⟨a, c, none, 0, none, 0⟩ W ⟨fun x hx => (nomatch hx), fun x hx => (nomatch hx)⟩ hat).mono ?_
  rintro e w' ⟨rfl, f⟩
  exact ⟨_, by rw [hc], f⟩
end
section
open Go.RowKit Go.Proofs

/-- a choice -/
structure OCh where
  what : Int
  a : Int
  b : Int
def OCh.cells (x : OCh) : List Value := [.int .u8 x.what, .int .u8 x.a, .int .u8 x.b]
def OCh.Ok (x : OCh) : Prop := (0 ≤ x.what ∧ x.what < 256) ∧ (0 ≤ x.a ∧ x.a < 256) ∧ 0 ≤ x.b ∧ x.b < 256
/-- the overlays' addresses, as far as they are made -/
def ptrs (bo : Nat → Nat) (k : Nat) : Array Value := wsN 5 (fun i => if i < k then .pointer (some ⟨bo i, 0, none⟩) else .pointer none)
theorem ptrs_get {bo : Nat → Nat} {i k : Nat} (hi : i < k) (h5 : i < 5) : (ptrs bo k)[i]? = some (.pointer (some ⟨bo i, 0, none⟩)) := by
  unfold ptrs
  rw [wsN_get _ h5, if_pos hi]
theorem ptrs_put (bo : Nat → Nat) {k : Nat} (hk : k < 5) (g : Nat) : putAt (ptrs bo k) k #[.pointer (some ⟨g, 0, none⟩)] = ptrs (upd bo k g) (k + 1) := by
  unfold ptrs
  rw [wsN_put _ hk]
  congr 1
  funext i
  unfold upd
  by_cases h1 : i = k
  · rw [if_pos h1, if_pos (by omega), if_pos h1]
  · rw [if_neg h1]
    by_cases h2 : i < k
    · simp only
      rw [if_pos h2, if_pos (by omega), if_neg h1]
    · simp only
      rw [if_neg h2, if_neg (by omega)]
theorem ovB_push (k : Nat) (bo : Nat → Nat) (o : Nat → Ov) (x : Nat → OvP) (g : Nat) (y : OvP) : (⟨g, (o k).arr y, 103⟩ :: ovB k bo o x).Perm (ovB (k + 1) (upd bo k g) o (upd x k y)) := by
  have e : ovB (k + 1) (upd bo k g) o (upd x k y) = ovB k bo o x ++ [⟨g, (o k).arr y, 103⟩] := by
    unfold ovB
    rw [List.range_succ, List.map_append]
    congr 1
    · refine List.map_congr_left (fun i hi => ?_)
      have : i ≠ k := by have := List.mem_range.1 hi; omega
      rw [upd_other _ _ this, upd_other _ _ this]
    · simp [upd_same]
  rw [e]
  exact (List.perm_append_singleton _ _).symm
structure OpRows (o : Nat → Ov) (x : Nat → OvP) (ws : Nat → Nat → List Ol) (R : List Rw) : Prop where
  ov : ∀ i, i < 5 → ∀ r ∈ orows (o i) (x i) [], r ∈ R
  way : ∀ i j, ∀ l ∈ ws i j, l.row ∈ R
def tells (ws : Nat → Nat → List Ol) : Nat → Nat → List OLet := fun i j => (ws i j).map Ol.tell
abbrev opX (q12 q7 q3 : Nat) (s0 s1 : Int) (v : Nat → Value) (bo : Nat → Nat) : List Blk := [⟨q12, wsN 25 v, 71⟩, ⟨q7, ptrs bo 5, 67⟩, ⟨q3, #[.int .u8 s0, .int .u8 s1], 65⟩]
/-- what stays from round to round -/
def OpSt (W : World) (q12 q7 q3 : Nat) (s0 s1 : Int) (dp : Value) (bo : Nat → Nat) (am pm : Int) (a1 : Option Addr) (c1 : Nat) (CH : List OCh) (K : Nat) (w : World) : Prop :=
  ∃ (o : Nat → Ov) (x : Nat → OvP) (ws : Nat → Nat → List Ol) (v : Nat → Value) (ds : List Int) (R : List Rw), OInv 5 am pm ⟨o, tells ws⟩ ∧ (∀ i j, (ws i j).length ≤ K) ∧ OpRows o x ws R ∧ (⟨a1, CH.length, c1, CH.flatMap OCh.cells⟩ : Rw) ∈ R ∧
    Sta W (fun _ => True) dp ds (opX q12 q7 q3 s0 s1 v bo ++ ovB 5 bo o x) (ownO (fun m => ws (m / 5) (m % 5)) v) R w
/-- what was said in a round, and by whom -/
def OpOut (W : World) (q12 q7 q3 : Nat) (s0 s1 : Int) (dp : Value) (bo : Nat → Nat) (am pm : Int) (a1 : Option Addr) (c1 : Nat) (CH : List OCh) (K : Nat) (v16 v17 : Value) (w : World) : Prop :=
  ∃ (o : Nat → Ov) (x : Nat → OvP) (ws : Nat → Nat → List Ol) (v : Nat → Value) (ds : List Int) (R : List Rw) (outs : List Om) (a : Option Addr) (c p : Nat), v16 = .slice a outs.length c ∧ v17 = .int .i64 p ∧ p < 5 ∧ OInv 5 am pm ⟨o, pushMs p (tells ws) (outs.map Om.m)⟩ ∧
    (∀ i j, (ws i j).length + outs.length ≤ K + 70) ∧ outs.length ≤ 70 ∧ (∀ y ∈ outs, OutOk 5 p y.m) ∧ OpRows o x ws R ∧ (⟨a1, CH.length, c1, CH.flatMap OCh.cells⟩ : Rw) ∈ R ∧ (∀ y ∈ outs, y.row ∈ R) ∧ (⟨a, outs.length, c, oms outs⟩ : Rw) ∈ R ∧
    Sta W (fun _ => True) dp ds (opX q12 q7 q3 s0 s1 v bo ++ ovB 5 bo o x) (ownO (fun m => ws (m / 5) (m % 5)) v) R w
theorem OpRows.put {o : Nat → Ov} {x : Nat → OvP} {ws : Nat → Nat → List Ol} {R R2 : List Rw} (h : OpRows o x ws R) {a : Nat} {o' : Ov} {x' : OvP} (h1 : ∀ r ∈ orows o' x' [], r ∈ R2) (h2 : ∀ r ∈ R, r ∈ R2) : OpRows (upd o a o') (upd x a x') ws R2 :=
  ⟨fun i hi r hr => by
    by_cases e : i = a
    · subst e
      rw [upd_same, upd_same] at hr
      exact h1 r hr
    · rw [upd_other _ _ e, upd_other _ _ e] at hr
      exact h2 r (h.ov i hi r hr), fun i j l hl => h2 _ (h.way i j l hl)⟩
theorem tells_upd (ws : Nat → Nat → List Ol) (a b : Nat) (l : List Ol) : tells (upd2 ws a b l) = upd2 (tells ws) a b (l.map Ol.tell) := by
  funext i j
  unfold tells upd2 upd
  by_cases e : i = a
  · subst e
    simp only [if_pos]
    by_cases e2 : j = b
    · rw [if_pos e2, if_pos e2]
    · rw [if_neg e2, if_neg e2]
  · rw [if_neg e, if_neg e]
theorem orows_app (o : Ov) (x : OvP) (R : List Rw) : ∀ r, r ∈ orows o x R ↔ r ∈ orows o x [] ∨ r ∈ R := by
  intro r
  simp only [orows, hrows, vrows, List.mem_cons, List.not_mem_nil, or_false]
  constructor
  · rintro (h | h | h | h | h)
    · exact .inl (.inl h)
    · exact .inl (.inr (.inl h))
    · exact .inl (.inr (.inr (.inl h)))
    · exact .inl (.inr (.inr (.inr h)))
    · exact .inr h
  · rintro ((h | h | h | h) | h)
    · exact .inl h
    · exact .inr (.inl h)
    · exact .inr (.inr (.inl h))
    · exact .inr (.inr (.inr (.inl h)))
    · exact .inr (.inr (.inr (.inr h)))
theorem OpRows.way2 {o : Nat → Ov} {x : Nat → OvP} {ws : Nat → Nat → List Ol} {R R2 : List Rw} (h : OpRows o x ws R) {a b : Nat} {l : List Ol} (h1 : ∀ y ∈ l, y.row ∈ R2) (h2 : ∀ r ∈ R, r ∈ R2) : OpRows o x (upd2 ws a b l) R2 :=
  ⟨fun i hi r hr => h2 r (h.ov i hi r hr), fun i j y hy => by
    by_cases e : i = a ∧ j = b
    · obtain ⟨rfl, rfl⟩ := e
      rw [upd2_same] at hy
      exact h1 y hy
    · rw [upd2_other _ _ e] at hy
      exact h2 _ (h.way i j y hy)⟩
theorem upd2_len {α : Type} {w : Nat → Nat → List α} {N : Nat} (h : ∀ i j, (w i j).length ≤ N) {a b : Nat} {l : List α} (hl : l.length ≤ N) : ∀ i j, (upd2 w a b l i j).length ≤ N := by
  intro i j
  by_cases e : i = a ∧ j = b
  · obtain ⟨rfl, rfl⟩ := e
    rw [upd2_same]
    exact hl
  · rw [upd2_other _ _ e]
    exact h i j
/-- behind a call that tells something -/
theorem op_put {W : World} {q12 q7 q3 : Nat} {s0 s1 : Int} {dp : Value} {bo : Nat → Nat} {am pm : Int} {a1 : Option Addr} {c1 : Nat} {CH : List OCh} {K : Nat} {o : Nat → Ov} {x : Nat → OvP} {ws : Nat → Nat → List Ol} {v : Nat → Value} {ds : List Int} {R : List Rw} {a : Nat} {o' : Ov} {x' : OvP} {outs : List Ms} {l : List Om} {ra : Option Addr} {rc : Nat} {w' : World}
    (hr : OpRows o x ws R) (hc : (⟨a1, CH.length, c1, CH.flatMap OCh.cells⟩ : Rw) ∈ R) (ha : a < 5) (hi : OInv 5 am pm ⟨upd o a o', pushMs a (tells ws) outs⟩) (ho : ∀ y ∈ outs, OutOk 5 a y) (hf : outs.length ≤ 70) (hn : ∀ i j, (ws i j).length ≤ K) (hl : l.map Om.m = outs)
    (st : Sta W (fun _ => True) dp ds (opX q12 q7 q3 s0 s1 v bo ++ ovB 5 bo (upd o a o') (upd x a x')) (ownO (fun m => ws (m / 5) (m % 5)) v) (⟨ra, l.length, rc, oms l⟩ :: (l.map Om.row ++ orows o' x' R)) w') :
    OpOut W q12 q7 q3 s0 s1 dp bo am pm a1 c1 CH K (.slice ra l.length rc) (.int .i64 a) w' := by
  subst hl
  rw [List.length_map] at hf
  refine ⟨upd o a o', upd x a x', ws, v, ds, _, l, ra, rc, a, rfl, rfl, ha, hi, fun i j => by have := hn i j; omega, hf, fun y hy => ho _ (List.mem_map.2 ⟨y, hy, rfl⟩), hr.put (fun r h => List.mem_cons_of_mem _ (List.mem_append.2 (.inr ((orows_app o' x' R r).2 (.inl h))))) (fun r h => List.mem_cons_of_mem _ (List.mem_append.2 (.inr ((orows_app o' x' R r).2 (.inr h))))), ?_, fun y hy => List.mem_cons_of_mem _ (List.mem_append.2 (.inl (List.mem_map.2 ⟨y, hy, rfl⟩))), List.mem_cons_self, st⟩
  exact List.mem_cons_of_mem _ (List.mem_append.2 (.inr ((orows_app o' x' R _).2 (.inr hc))))
/-- nothing is told -/
theorem op_none {W : World} {q12 q7 q3 : Nat} {s0 s1 : Int} {dp : Value} {bo : Nat → Nat} {am pm : Int} {a1 : Option Addr} {c1 : Nat} {CH : List OCh} {K : Nat} {o : Nat → Ov} {x : Nat → OvP} {ws : Nat → Nat → List Ol} {v : Nat → Value} {ds : List Int} {R : List Rw} {a : Nat} {w' : World}
    (hr : OpRows o x ws R) (hc : (⟨a1, CH.length, c1, CH.flatMap OCh.cells⟩ : Rw) ∈ R) (ha : a < 5) (hi : OInv 5 am pm ⟨o, tells ws⟩) (hn : ∀ i j, (ws i j).length ≤ K + 70)
    (st : Sta W (fun _ => True) dp ds (opX q12 q7 q3 s0 s1 v bo ++ ovB 5 bo o x) (ownO (fun m => ws (m / 5) (m % 5)) v) R w') : OpOut W q12 q7 q3 s0 s1 dp bo am pm a1 c1 CH K (.slice none 0 0) (.int .i64 a) w' :=
  ⟨o, x, ws, v, ds, ⟨none, 0, 0, []⟩ :: R, [], none, 0, a, rfl, rfl, ha, hi, hn, by decide, fun y hy => (by cases hy), ⟨fun i h r k => List.mem_cons_of_mem _ (hr.ov i h r k), fun i j l k => List.mem_cons_of_mem _ (hr.way i j l k)⟩, List.mem_cons_of_mem _ hc, fun y hy => (by cases hy), List.mem_cons_self, st.addNil rfl (Nat.le_refl _) (by decide)⟩
/-- behind a call that tells nothing -/
theorem op_mute {W : World} {q12 q7 q3 : Nat} {s0 s1 : Int} {dp : Value} {bo : Nat → Nat} {am pm : Int} {a1 : Option Addr} {c1 : Nat} {CH : List OCh} {K : Nat} {o : Nat → Ov} {x : Nat → OvP} {ws : Nat → Nat → List Ol} {v : Nat → Value} {ds : List Int} {R : List Rw} {a : Nat} {o' : Ov} {x' : OvP} {w' : World}
    (hr : OpRows o x ws R) (hc : (⟨a1, CH.length, c1, CH.flatMap OCh.cells⟩ : Rw) ∈ R) (ha : a < 5) (hi : OInv 5 am pm ⟨upd o a o', tells ws⟩) (hn : ∀ i j, (ws i j).length ≤ K + 70)
    (st : Sta W (fun _ => True) dp ds (opX q12 q7 q3 s0 s1 v bo ++ ovB 5 bo (upd o a o') (upd x a x')) (ownO (fun m => ws (m / 5) (m % 5)) v) (orows o' x' R) w') :
    OpOut W q12 q7 q3 s0 s1 dp bo am pm a1 c1 CH K (.slice none 0 0) (.int .i64 a) w' :=
  op_none (hr.put (fun r h => (orows_app o' x' R r).2 (.inl h)) (fun r h => (orows_app o' x' R r).2 (.inr h))) ((orows_app o' x' R _).2 (.inr hc)) ha hi hn st
/-- the ends are cut -/
theorem op_cut {W : World} {q12 q7 q3 : Nat} {s0 s1 : Int} {dp : Value} {bo : Nat → Nat} {am pm : Int} {a1 : Option Addr} {c1 : Nat} {CH : List OCh} {K : Nat} {o : Nat → Ov} {x : Nat → OvP} {ws : Nat → Nat → List Ol} {v : Nat → Value} {ds : List Int} {R : List Rw} {a b : Nat} {w' : World}
    (hr : OpRows o x ws R) (hc : (⟨a1, CH.length, c1, CH.flatMap OCh.cells⟩ : Rw) ∈ R) (ha : a < 5) (hab : a ≠ b) (hi : OInv 5 am pm ⟨o, tells ws⟩) (hn : ∀ i j, (ws i j).length ≤ K)
    (st : Sta W (fun _ => True) dp ds (opX q12 q7 q3 s0 s1 v bo ++ ovB 5 bo o x) (ownO (fun m => upd2 (upd2 ws a b [⟨true, ⟨0, 0, 0, false, []⟩, none, 0⟩]) b a [⟨true, ⟨0, 0, 0, false, []⟩, none, 0⟩] (m / 5) (m % 5)) v) R w') :
    OpOut W q12 q7 q3 s0 s1 dp bo am pm a1 c1 CH K (.slice none 0 0) (.int .i64 a) w' := by
  have h1 : ∀ y ∈ [(⟨true, ⟨0, 0, 0, false, []⟩, none, 0⟩ : Ol)], y.row ∈ (⟨none, 0, 0, []⟩ :: R : List Rw) := fun y hy => by
    rw [List.mem_singleton.1 hy]
    exact List.mem_cons_self
  refine op_none ((hr.way2 h1 (fun _ h => List.mem_cons_of_mem _ h)).way2 h1 (fun _ h => h)) (List.mem_cons_of_mem _ hc) ha ?_ ?_ (st.addNil (r := ⟨none, 0, 0, []⟩) rfl (Nat.le_refl _) (by decide))
  · rw [tells_upd, tells_upd]
    exact hi.brk hab
  · refine upd2_len (upd2_len (fun i j => Nat.le_trans (hn i j) (by omega)) ?_) ?_ <;> (simp only [List.length_cons, List.length_nil]; omega)
theorem bits8 (x : Int) (m : Nat) (hm : m < 256) : ∃ v : Int, bits .and .u8 x m = v ∧ 0 ≤ v ∧ v ≤ m := by
  refine ⟨_, rfl, ?_⟩
  have h : (BitVec.ofInt 8 x &&& BitVec.ofInt 8 (m : Int)).toNat ≤ m := by
    rw [BitVec.toNat_and]
    refine Nat.le_trans Nat.and_le_right ?_
    simp
    omega
  have e : bits .and .u8 x m = IntKind.u8.wrap ((BitVec.ofInt 8 x &&& BitVec.ofInt 8 (m : Int)).toNat : Int) := rfl
  rw [e, IntKind.wrap_u8]
  omega
theorem cfg_good {r0 r1 : Int} (h0 : 0 ≤ r0 ∧ r0 ≤ 1) (h1 : 0 ≤ r1 ∧ r1 ≤ 3) : cGood (cfg13 (2 + r0) (1 + r1)) = true := by
  have e0 : r0 = 0 ∨ r0 = 1 := by omega
  have e1 : r1 = 0 ∨ r1 = 1 ∨ r1 = 2 ∨ r1 = 3 := by omega
  rcases e0 with rfl | rfl <;> rcases e1 with rfl | rfl | rfl | rfl <;> decide
theorem kept_in {l : List Int} {p : Int → Bool} {x : Int} (h : x ∈ kept p l) : x ∈ l := (List.mem_filter.1 h).1
/-- the overlays at their start -/
theorem op_start {r0 r1 : Int} (h0 : 0 ≤ r0 ∧ r0 ≤ 1) (h1 : 0 ≤ r1 ∧ r1 ≤ 3) : OInv 5 (2 + r0) (1 + r1) ⟨fun i => oNew ((i : Int) + 1) (cfg13 (2 + r0) (1 + r1)), tells (fun _ _ => [])⟩ := by
  refine OInv.start (by decide) (by omega) (fun i _ => ⟨oNew_ok _ _ (cfg_good h0 h1), rfl, fun x hx => ?_⟩) (by omega) (by omega)
  have hx1 : x ∈ kept (fun n => n == (i : Int) + 1) [1, 2] := hx
  have hx2 : x ∈ ([1, 2] : List Int) := kept_in hx1
  simp only [List.mem_cons, List.not_mem_nil, or_false] at hx2
  rcases hx2 with rfl | rfl <;> exact ⟨by omega, by omega⟩
theorem Tryz.zeroOpArr : (Tryz.prog.info? 67).map (fun i => (i.zero, i.size)) = some (some (.agg #[.pointer none, .pointer none, .pointer none, .pointer none, .pointer none]), 5) := by kernel_rfl
theorem Tryz.zeroOpWays : (Tryz.prog.info? 71).map (fun i => (i.zero, i.size)) = some (some (.agg #[.slice none 0 0, .slice none 0 0, .slice none 0 0, .slice none 0 0, .slice none 0 0, .slice none 0 0, .slice none 0 0, .slice none 0 0, .slice none 0 0, .slice none 0 0, .slice none 0 0, .slice none 0 0, .slice none 0 0, .slice none 0 0, .slice none 0 0, .slice none 0 0, .slice none 0 0, .slice none 0 0, .slice none 0 0, .slice none 0 0, .slice none 0 0, .slice none 0 0, .slice none 0 0, .slice none 0 0, .slice none 0 0]), 25) := by kernel_rfl
theorem Tryz.infoOpLetter : (Tryz.prog.info? 78).map (fun i => (i.zero, i.size, i.bytes)) = some (some (.agg #[.bool false, .int .i64 0, .int .i64 0, .int .i64 0, .bool false, .slice none 0 0, .slice none 0 0, .slice none 0 0]), 8, 112) := by kernel_rfl
theorem Tryz.zeroOpLetter : (Tryz.prog.info? 78).map (fun i => (i.zero, i.size)) = some (some (.agg #[.bool false, .int .i64 0, .int .i64 0, .int .i64 0, .bool false, .slice none 0 0, .slice none 0 0, .slice none 0 0]), 8) := by kernel_rfl
theorem Tryz.infoOpLetter2 : (Tryz.prog.info? 78).map (·.size) = some 8 := by kernel_rfl
theorem Sta.nils25 {W : World} {O : Nat → Prop} {p : Value} {ds : List Int} {B : List Blk} {R : List Rw} {w : World} (h : Sta W O p ds B [] R w) : Sta W O p ds B (ownO (fun _ => []) (fun _ => .slice none 0 0)) R w :=
  (((((((((((((((((((((((((h.ownNil 78 8).ownNil 78 8).ownNil 78 8).ownNil 78 8).ownNil 78 8).ownNil 78 8).ownNil 78 8).ownNil 78 8).ownNil 78 8).ownNil 78 8).ownNil 78 8).ownNil 78 8).ownNil 78 8).ownNil 78 8).ownNil 78 8).ownNil 78 8).ownNil 78 8).ownNil 78 8).ownNil 78 8).ownNil 78 8).ownNil 78 8).ownNil 78 8).ownNil 78 8).ownNil 78 8).ownNil 78 8)
theorem oFew (o : Ov) (ds : List Int) : (oTick o ds).2.1.length ≤ 70 := by
  have h1 := oFill_one o ds
  have h2 : ∀ v a b c d, (oStart v a b c d).1.length ≤ 1 := fun v a b c d => by unfold oStart; split <;> simp
  unfold oTick
  split
  · have := h2 (oFill o ds).1.h.v (oFill o ds).1.c.mixA (oFill o ds).1.c.mixP (oFill o ds).1.c.far (oFill o ds).2.2
    simp only [List.length_append, List.length_map]
    omega
  · simp only [List.length_map]
    omega
theorem oFewT {o : Ov} {fr : Int} {m : Mq} {ds : List Int} (hact : (oTake o fr m ds).1.h.v.act.length ≤ 64) : (oTake o fr m ds).2.1.length ≤ 70 := by
  have f1 := few_onAsk o.h fr true ds
  by_cases k1 : m.kind = 1
  · have e : oTake o fr m ds = oJoins o fr ds := by unfold oTake; rw [if_pos k1]
    rw [e] at hact ⊢
    have h2 : (hOnAsk o.h fr true ds).1.v.act.length ≤ 64 := hact
    have f6 : (but (hOnAsk o.h fr true ds).1.v.act [fr]).length ≤ 64 := Nat.le_trans (List.length_filter_le _ _) h2
    unfold oJoins
    split
    all_goals simp only [List.length_append, List.length_map, List.length_nil]
    all_goals omega
  have f2 := few_onAsk o.h fr m.high ds
  have f3 := few_onYes o.h fr ds
  have f4 := few_onNo o.h fr ds
  have f5 := hAsk_one o.h m.node false
  clear hact
  unfold oTake
  rw [if_neg k1]
  unfold oForward oHand mShuf oAsk
  repeat' split
  all_goals simp only [List.length_map, List.length_cons, List.length_nil] at *
  all_goals omega
end
end Go.Proofs.YtelepohdfcjnfaaGreat
