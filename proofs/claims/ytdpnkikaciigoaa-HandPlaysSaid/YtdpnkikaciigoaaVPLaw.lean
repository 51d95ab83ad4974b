/-
  ViewPlays: the two variables (the view's, the document's) and what each step does to them.
-/
import Derived.Test.YtdpnkikaciigoaaRvL
import Derived.Test.YtdpnkikaciigoaaViewEv
namespace Go.Proofs.Ytdpnkikaciigoaa
open Go.RowKit Go.Proofs

theorem oneV_nil (l : List Int) : (oneV [] l).2.2 = [] := by
  unfold oneV
  split
  · rfl
  · simp only; unfold bel; split <;> rfl
theorem rKnow_nil (u : Vw) (n : Int) : (rKnow u n []).2 = [] := by
  unfold rKnow
  split
  · rfl
  · split
    · exact oneV_nil _
    · rfl
theorem rLeave_nil (u : Vw) (n : Int) (k : Bool) : (rLeave u n k []).2.2 = [] := by
  unfold rLeave
  split
  · split
    · exact rKnow_nil _ _
    · rfl
  · rfl
theorem rEvict_nil (u : Vw) : (rEvict u []).2.2.2 = [] := by
  unfold rEvict
  split
  · rfl
  · simp only; rw [oneV_nil]; exact rLeave_nil _ _ _

theorem exec_bldW (ρ : Operand → Value) (w : World) (dst : Option Tmp) (ty : TypeId) (pos : String) (after : Array Edge) {x0 x3 x4 x5 : Operand} {i0 i3 i4 : Int} {sa : Option Addr} {sn sc : Nat} (h0 : ρ x0 = .int .i64 i0) (h3 : ρ x3 = .int .i64 i3) (h4 : ρ x4 = .int .i64 i4) (h5 : ρ x5 = .slice sa sn sc) :
    (execOp ρ ⟨dst, .build 51 #[(0, x0), (3, x3), (4, x4), (5, x5)], ty, pos, after, none⟩).run Try.prog w = .ok (.value (.agg #[.int .i64 i0, .slice none 0 0, .slice none 0 0, .int .i64 i3, .int .i64 i4, .slice sa sn sc])) w := by simp [go_sem, h0, h3, h4, h5]
theorem wpList_bldW {ops : Array Oper} {rest : List Oper} {dst : Option Tmp} {ty : TypeId} {pos : String} {after : Array Edge} {A : Act} {w : World} {Q : Exit → Act → World → Prop} {x0 x3 x4 x5 : Operand} {i0 i3 i4 : Int} {sa : Option Addr} {sn sc : Nat} (h0 : A.eval x0 = .int .i64 i0) (h3 : A.eval x3 = .int .i64 i3) (h4 : A.eval x4 = .int .i64 i4) (h5 : A.eval x5 = .slice sa sn sc)
    (h : wpList Try.prog ops Q rest (A.put dst (.agg #[.int .i64 i0, .slice none 0 0, .slice none 0 0, .int .i64 i3, .int .i64 i4, .slice sa sn sc])) w) :
    wpList Try.prog ops Q (⟨dst, .build 51 #[(0, x0), (3, x3), (4, x4), (5, x5)], ty, pos, after, none⟩ :: rest) A w := by
  refine wpList_plain rfl fun K hK => ?_
  unfold Oper.wp
  rw [exec_bldW A.eval w dst ty pos after h0 h3 h4 h5]
  exact hK _ _ h

/-- where the two variables and the draw lie -/
structure VpC (W : World) (q m : Nat) (dp : Value) : Prop where
  q0 : W.heap.size ≤ q
  m0 : W.heap.size ≤ m
  d0 : ∀ k, pblk dp k → W.heap.size ≤ k
  qm : q ≠ m
  qd : ¬ pblk dp q
  md : ¬ pblk dp m
abbrev vpS (q m : Nat) (dp : Value) : Nat → Prop := fun k => k = q ∨ k = m ∨ pblk dp k
structure VpW (W : World) (q m : Nat) (dp : Value) (w : World) (v : Vw) (y : VwP) (u : Vw) (z : VwP) (dv du : List Int) (da : Option Addr) (dc : Nat) : Prop where
  bv : w.heap[q]? = some (.cells (v.arr y) 29 (0, 0))
  bm : w.heap[m]? = some (.cells (rwArr u z du da dc) 51 (0, 0))
  va : VwAt w v y
  ra : RwAt w u z du da dc
  av : VwApart (vpS q m dp) v y
  au : VwApart (vpS q m dp) u z
  dr : DrawV w dp dv
  sep : VwSep dp v y
  da : du = [] ∨ ∀ p, da = some p → p.block < W.heap.size
  gr : Gr W w

section
variable {W w w' : World} {q m : Nat} {dp : Value} {v u : Vw} {y z : VwP} {dv du : List Int} {da : Option Addr} {dc : Nat}

theorem vpS_lt (h : VpW W q m dp w v y u z dv du da dc) : ∀ k, vpS q m dp k → k < w.heap.size := by
  rintro k (rfl | rfl | hk)
  · exact (Array.getElem?_eq_some_iff.1 h.bv).1
  · exact (Array.getElem?_eq_some_iff.1 h.bm).1
  · exact h.dr.lt k hk
theorem dr_keepS {S : Nat → Prop} (h : SlA w da du.length dc (du.map (Value.int .u32))) (hd : du = [] ∨ ∀ p, da = some p → p.block < W.heap.size) (f : Fr S w w') (hS : ∀ k, S k → W.heap.size ≤ k) : SlA w' da du.length dc (du.map (Value.int .u32)) := by
  rcases hd with rfl | hd
  · exact ⟨h.le, h.max, fun j x hj => by simp at hj⟩
  · exact h.keep f (fun p hp hs => by have := hd p hp; have := hS _ hs; omega)
theorem RwAt.keepS {S : Nat → Prop} (h : RwAt w u z du da dc) (a : VwApart S u z) (hd : du = [] ∨ ∀ p, da = some p → p.block < W.heap.size) (f : Fr S w w') (hS : ∀ k, S k → W.heap.size ≤ k) : RwAt w' u z du da dc :=
  ⟨h.act.keepNE f a.1, h.pas.keepNE f a.2, dr_keepS h.dr hd f hS⟩
theorem VwApart.sub {S T : Nat → Prop} (h : VwApart S v y) (hT : ∀ k, T k → S k) : VwApart T v y := ⟨fun hl p hp ht => h.1 hl p hp (hT _ ht), fun hl p hp ht => h.2 hl p hp (hT _ ht)⟩
theorem pblk_S : ∀ k, pblk dp k → vpS q m dp k := fun _ h => .inr (.inr h)
theorem q_S : ∀ k, k = q → vpS q m dp k := fun _ h => .inl h
theorem m_S : ∀ k, k = m → vpS q m dp k := fun _ h => .inr (.inl h)
theorem VpC.S (c : VpC W q m dp) : ∀ k, vpS q m dp k → W.heap.size ≤ k := by
  rintro k (rfl | rfl | hk)
  · exact c.q0
  · exact c.m0
  · exact c.d0 k hk
/-- a call that draws -/
theorem VpW.call (c : VpC W q m dp) (h : VpW W q m dp w v y u z dv du da dc) (f : Fr (pblk dp) w w') {dv' : List Int} (hd : DrawV w' dp dv') : VpW W q m dp w' v y u z dv' du da dc :=
  ⟨blk_keep f h.bv c.qd, blk_keep f h.bm c.md, h.va.keepA f (h.av.sub pblk_S), h.ra.keepS (h.au.sub pblk_S) h.da f c.d0, h.av, h.au, hd, h.sep, h.da, Fr.trans h.gr f (fun k hk => .inr (c.d0 k hk))⟩
theorem VpW.keep (h : VpW W q m dp w v y u z dv du da dc) (f : Gr w w') : VpW W q m dp w' v y u z dv du da dc :=
  ⟨blk_keep f h.bv (fun h => h), blk_keep f h.bm (fun h => h), h.va.gr f, h.ra.gr f, h.av, h.au, h.dr.keep f, h.sep, h.da, Gr.trans h.gr f⟩
/-- a draw is not where cells of another kind lie -/
theorem DrawV.keepB {b : Nat} {cs : Array Value} {T : TypeId} {fz : Nat × Nat} {p : Value} {ds : List Int} (h : DrawV w p ds) (f : Fr (fun k => k = b) w w') (hp : ¬ pblk p b) (hb : w.heap[b]? = some (.cells cs T fz)) (hn : NoU32 cs) : DrawV w' p ds := by
  rcases h with ⟨rfl, rfl⟩ | ⟨d, rfl, a, cap, h1, h2, h3, h4, h5⟩
  · exact .nil w'
  · have hdq : d ≠ b := fun e => hp (by rw [e]; rfl)
    refine .inr ⟨d, rfl, a, cap, f.cell h1 hdq, (f.frozen h1 hdq).trans h2, ?_, h4, h5⟩
    exact dr_keep h3 f hb hn
theorem noU32_vw (v : Vw) (y : VwP) : NoU32 (v.arr y) := by
  intro i x h
  match i, h with
  | 0, h => simp at h
  | 1, h => simp at h
  | 2, h => simp at h
  | 3, h => simp at h
  | 4, h => simp at h
  | i + 5, h => simp at h
theorem VpW.storeV (c : VpC W q m dp) (h : VpW W q m dp w v y u z dv du da dc) {v' : Vw} {y' : VwP} (f : Fr (fun k => k = q) w w') (b : w'.heap[q]? = some (.cells (v'.arr y') 29 (0, 0))) (va : VwAt w v' y') (av : VwApart (vpS q m dp) v' y') (sep : VwSep dp v' y') : VpW W q m dp w' v' y' u z dv du da dc :=
  ⟨b, blk_keep f h.bm (fun e => c.qm e.symm), va.keepA f (av.sub q_S), h.ra.keepS (h.au.sub q_S) h.da f (fun _ hk => hk ▸ c.q0), av, h.au, h.dr.keepB f c.qd h.bv (noU32_vw _ _), sep, h.da, fr_new h.gr f c.q0⟩
theorem VpW.storeM (c : VpC W q m dp) (h : VpW W q m dp w v y u z dv du da dc) {u' : Vw} {z' : VwP} {du' : List Int} {da' : Option Addr} {dc' : Nat} (f : Fr (fun k => k = m) w w') (b : w'.heap[m]? = some (.cells (rwArr u' z' du' da' dc') 51 (0, 0))) (ra : RwAt w u' z' du' da' dc') (au : VwApart (vpS q m dp) u' z') (hda : du' = [] ∨ ∀ p, da' = some p → p.block < W.heap.size) : VpW W q m dp w' v y u' z' dv du' da' dc' :=
  ⟨blk_keep f h.bv c.qm, b, h.va.keepA f (h.av.sub m_S), ra.keepS (au.sub m_S) hda f (fun _ hk => hk ▸ c.m0), h.av, au, h.dr.keepB f c.md h.bm (noU32_arr _ _ _ _ _), h.sep, hda, fr_new h.gr f c.m0⟩
theorem da_of {da' : Option Addr} {du' : List Int} (h : du = [] ∨ ∀ p, da = some p → p.block < W.heap.size) (k : DaOf da da') (hn : du = [] → du' = []) : du' = [] ∨ ∀ p, da' = some p → p.block < W.heap.size := by
  rcases h with h | h
  · exact .inl (hn h)
  · refine .inr fun p hp => ?_
    obtain ⟨p0, h1, h2⟩ := k p hp
    rw [← h2]
    exact h p0 h1
end

set_option maxHeartbeats 2000000 in
set_option maxRecDepth 100000 in
theorem refSorted_none (cap : Nat) (w : World) :
    Calls Try.prog 38 #[.slice none 0 cap] w (RowOut [] w) := by
  go_enter Try.func38, Try.ntmps38
  go_wp2_with fail
  go_loopw [4, 5] (fun iv _ wr => ∃ (i : Nat), iv = .int .i64 i ∧ 1 ≤ i ∧ Gr w wr) (fun iv _ _ => 0)
  case atStart => exact ⟨1, rfl, Nat.le_refl _, (Fr.refl _ _).alloc _⟩
  case round =>
    obtain ⟨i, rfl, hi, hf⟩ := hrel
    have hlt : decide ((i : Int) < 0) = false := by simp
    have HF := Lib.hid hf; clear hf
    go_wp2_with fail
    go_ret
    exact ⟨_, _, rfl, ⟨Nat.le_refl _, by simp, fun j u h => by simp at h⟩, HF.out⟩
set_option maxHeartbeats 2000000 in
set_option maxRecDepth 100000 in
theorem refSorted_some (q : Addr) (cap : Nat) (w : World) : Calls Try.prog 38 #[.slice (some q) 0 cap] w (RowOut [] w) := by
  obtain ⟨i0, hi, hz0, hz1, hz2⟩ := info_parts Try.infoint
  go_enter Try.func38, Try.ntmps38
  go_wp2_with (at_builtin; refine wpList_append_own _ rfl _ _ 22 rfl w.heap.size 3 i0 (.int .i64 0) 1 8 Try.underlying22 hi hz0 hz1 hz2 rfl (by decide) _ _ _ rfl (own_empty w _ _ (Nat.le_refl _)) q 0 cap [] rfl (by simp) (by intro j u hj; simp at hj) (by simp) (by unfold maxLen; omega) (by omega) (by simp) ?_)
  intro v1 w1 hown1 hgrow1 hiff
  have hfr1 : Gr w w1 := ((Fr.refl (fun _ => False) w).alloc _).grown hgrow1 (fun q hq => .inr (by simp [Value.ownBlock] at hq; omega))
  obtain ⟨a1, c1, rfl, h1, -⟩ := SlA.of_own hown1
  have F1 := Lib.hid hfr1
  have hc9 := h1.max
  clear hown1 hgrow1 hiff hfr1 h1
  go_wp2_with fail
  go_loopw [4, 5] (fun iv _ wr => ∃ (i : Nat), iv = .int .i64 i ∧ 1 ≤ i ∧ Gr w wr) (fun iv _ _ => 0)
  case atStart => exact ⟨1, rfl, Nat.le_refl _, F1.out⟩
  case round =>
    obtain ⟨i, rfl, hi, hf⟩ := hrel
    have hlt : decide ((i : Int) < 0) = false := by simp
    have HF := Lib.hid hf; clear hf
    go_wp2_with fail
    go_ret
    exact ⟨_, _, rfl, ⟨Nat.zero_le _, hc9, fun j u h => by simp at h⟩, HF.out⟩
theorem refSorted_sl (a : Option Addr) (cap : Nat) (l t : List Int) (w : World) (h : SlA w a l.length cap (ints l)) (hp : t.Perm l) (ht : t.Pairwise (· ≤ ·)) (hn : l.length ≤ 100) :
    Calls Try.prog 38 #[.slice a l.length cap] w (RowOut t w) := by
  cases a with
  | none =>
    obtain rfl := sla_none h
    obtain rfl : t = [] := List.perm_nil.1 hp
    exact refSorted_none cap w
  | some q =>
    cases l with
    | nil =>
      obtain rfl : t = [] := List.perm_nil.1 hp
      exact refSorted_some q cap w
    | cons x r =>
      obtain ⟨b, o, e, _⟩ := h.cell 0 _ rfl
      cases e
      exact refSorted_any b o cap (x :: r) t w h hp ht (by omega)

theorem leftV_any (p : Value) (ds : List Int) (w : World) (h : DrawV w p ds) (hp : ∃ d, p = .pointer (some ⟨d, 0, none⟩)) : Calls Try.prog 39 #[p] w fun e w' => e = .returned (.int .i64 ds.length) ∧ w = w' := by
  obtain ⟨d, rfl⟩ := hp
  rcases h with ⟨h, _⟩ | ⟨d', h, h2⟩
  · cases h
  · cases h
    exact left_any d ds w h2

/-- the state between two steps -/
structure VpSt (W : World) (q m : Nat) (dp : Value) (w : World) (v u : Vw) (ds : List Int) : Prop where
  w : ∃ y z da dc, VpW W q m dp w v y u z ds ds da dc
  like : Like v u
  good : v.Good
  sane : v.Sane
end Go.Proofs.Ytdpnkikaciigoaa
