/-
  slices.IndexFunc and DeleteFunc at []int with a method value (printed by gen_setdelb.py out of XSetFn, XSetDel).
-/
import Derived.Test.YtelepohdfcjnfaaZSetSpec
namespace Go.Proofs.Ytelepohdfcjnfaa
open Go.RowKit Go.Proofs

/-- a method value that answers p of a number, and makes new memory at most, in every world that parts from w in the blocks of S only -/
def PredM (F : FuncId) (bd : Array Value) (p : Int → Bool) (S : Nat → Prop) (w : World) : Prop :=
  (∀ args w, (callFunc F args).run Try.prog w = .ok (.enter F args) w) ∧
  ∀ (x : Int) (w' : World), Fr S w w' → Calls Try.prog F (bd ++ #[.int .i64 x]) w' fun e w'' => e = .returned (.bool (p x)) ∧ Fr (fun _ => False) w' w''

set_option maxHeartbeats 1000000 in
set_option maxRecDepth 100000 in
theorem indexFuncM_any (F : FuncId) (fc : Array Value) (p : Int → Bool) (S : Nat → Prop) (a : Option Addr) (cap : Nat) (l : List Int) (w : World) (h : SlA w a l.length cap (ints l)) (hp : PredM F fc p S w) :
    Calls Try.prog 82 #[.slice a l.length cap, .func (.func F) fc #[]] w fun e w' => e = .returned (.int .i64 (idxF p l)) ∧ Fr (fun _ => False) w w' := by
  obtain ⟨hent, hcl⟩ := hp
  have hle := h.le
  have hmx := h.max
  have H := Lib.hid h; clear h
  have HP := Lib.hid hcl; clear hcl
  go_enter Try.func82, Try.ntmps82
  go_wp2_with fail
  go_loopw [5, 8] (fun jv iv wr => ∃ k : Nat, iv = .int .i64 k ∧ k ≤ l.length ∧ (∀ x ∈ l.take k, p x = false) ∧ Fr (fun _ => False) w wr) (fun _ iv _ => l.length - (intOf iv).toNat)
  case atStart => exact ⟨0, rfl, Nat.zero_le _, by simp, Fr.refl _ _⟩
  case round =>
    obtain ⟨k, rfl, hk, hno, hwr⟩ := hrel
    have HN := Lib.hid hno; clear hno
    have HW := Lib.hid hwr; clear hwr
    by_cases hlt : k < l.length
    · obtain ⟨b, o, rfl, hc⟩ := (H.out.keep HW.out (fun _ _ h => h)).int k hlt
      have hts : l.take (k + 1) = l.take k ++ [l[k]] := by rw [List.take_succ_eq_append_getElem hlt]
      have HTS := Lib.hid hts; clear hts
      have hcall := HP.out l[k] wr (HW.out.mono (fun _ _ h => h.elim))
      have HCALL := Lib.hid hcall; clear hcall
      cases hpk : p l[k]
      · have hno2 : ∀ x ∈ l.take (k + 1), p x = false := by
          intro x hx
          rw [HTS.out, List.mem_append] at hx
          rcases hx with hx | hx
          · exact HN.out x hx
          · have : x = l[k] := by simpa using hx
            rw [this]; exact hpk
        have HN2 := Lib.hid hno2; clear hno2
        rw [hpk] at HCALL
        clear hpk
        go_wp2_with fail
        refine HCALL.out.mono ?_
        rintro e w2 ⟨rfl, hf2⟩
        have HW2 := Lib.hid (HW.out.trans hf2 (fun _ h => h.elim)); clear hf2
        go_wp2_with fail
        go_roundw
        case rel => exact ⟨k + 1, by go_num, by omega, HN2.out, HW2.out⟩
        case measure => simp [intOf]; omega
      · have hah := ahead_at hlt HN.out hpk
        have HAH := Lib.hid hah; clear hah
        rw [hpk] at HCALL
        clear hpk
        go_wp2_with fail
        refine HCALL.out.mono ?_
        rintro e w2 ⟨rfl, hf2⟩
        have HW2 := Lib.hid (HW.out.trans hf2 (fun _ h => h.elim)); clear hf2
        go_wp2_with fail
        go_ret
        exact ⟨by unfold idxF; rw [HAH.out, if_pos hlt]; rfl, HW2.out⟩
    · have hall : ahead p l = l.length := by
        have := HN.out
        rw [List.take_of_length_le (by omega)] at this
        exact ahead_all this
      have HAH := Lib.hid hall; clear hall
      go_wp2_with fail
      go_ret
      exact ⟨by unfold idxF; rw [HAH.out, if_neg (Nat.lt_irrefl _)]; rfl, HW.out⟩
set_option maxHeartbeats 2000000 in
set_option maxRecDepth 100000 in
theorem deleteFuncM_any (F : FuncId) (fc : Array Value) (p : Int → Bool) (B : Nat) (v : Value) (l : List Int) (w : World) (hown : w.ownsRow B 3 1 v l.length (ints l)) (hp : PredM F fc p (fun k => v.ownBlock = some k) w) (hn : l.length ≤ 4294967296) :
    Calls Try.prog 53 #[v, .func (.func F) fc #[]] w fun e w' => DelOut (kept p l) (fun k => v.ownBlock = some k) w e w' := by
  obtain ⟨a, cap, hv, hs, hb, _⟩ := SlA.of_own hown
  have hidx := indexFuncM_any F fc p _ a cap l w hs hp
  by_cases hah : ahead p l < l.length
  · have hir : idxF p l = (ahead p l : Int) := by unfold idxF; rw [if_pos hah]
    rw [hir] at hidx
    obtain ⟨hno, hpi⟩ := ahead_some hah
    obtain ⟨b, o, rfl, hx0⟩ := hs.int 0 (by omega)
    clear hx0
    have ho := (hb _ rfl).2.2
    simp only at ho
    subst ho
    obtain ⟨hent, hcl⟩ := hp
    obtain ⟨i0, hi0⟩ : ∃ i0, ahead p l = i0 := ⟨_, rfl⟩
    rw [hi0] at hidx
    simp only [hi0] at hah hno hpi
    obtain ⟨cur, hg, hcs, hnc, hcm⟩ : ∃ cur : Array Value, w.heap[b]? = some (.cells cur 3 (0, 0)) ∧ cur.size = cap ∧ l.length ≤ cap ∧ cap ≤ maxLen := by
      rcases hown.2 with ⟨h1, _⟩ | ⟨g, c, cur, h1, _, h2, h3, h4, h5, _⟩
      · rw [hv] at h1; cases h1
      · rw [hv] at h1; cases h1; exact ⟨cur, h2, by omega, h3, h4⟩
    subst hv
    have hcells : ∀ j (hj : j < l.length), cur[j]? = some (.int .i64 l[j]) := by
      intro j hj
      obtain ⟨b', o', he, hc⟩ := hs.int j hj
      cases he
      rw [Lib.cell_of_heap hg, Nat.zero_add] at hc
      exact hc
    have hS : ∀ k, (Value.slice (some ⟨b, 0, none⟩) l.length cap).ownBlock = some k ↔ k = b := by intro k; simp [Value.ownBlock]; exact eq_comm
    simp only [hS] at hcl
    have HI := Lib.hid hidx; clear hidx hir
    have HCL := Lib.hid hcl; clear hcl
    have HC := Lib.hid hcells; clear hcells
    have HS := Lib.hid hS; clear hS
    have HG := Lib.hid hg; clear hg
    have hk0 : kept p (l.take (i0 + 1)) = l.take i0 := by
      rw [kept_snoc p l i0 hah, if_pos hpi, kept_all hno]
    have HK0 := Lib.hid hk0; clear hk0 hno hpi hi0
    clear hown hs hb
    go_enter Try.func53, Try.ntmps53
    go_wp2_with fail
    refine HI.out.mono ?_
    rintro e w1 ⟨rfl, hf1⟩
    have F1 := Lib.hid hf1; clear hf1 HI
    have hne1 : ((i0 : Int) == -1) = false := by simp
    go_wp2_with fail
    clear hne1
    have hlt := lt_of_cell (show w.cell? ⟨b, 0, none⟩ = some (.int .i64 (l[0]'(by omega))) by rw [Lib.cell_of_heap HG.out]; exact HC.out 0 (by omega))
    simp only at hlt
    have hg1 : w1.heap[b]? = some (.cells cur 3 (0, 0)) := by rw [F1.out.block b hlt (fun h => h)]; exact HG.out
    have HG1 := Lib.hid hg1; clear hg1
    go_loopw [5, 6, 7] (fun iv jv vv wr => ∃ (i j : Nat) (c : Array Value), iv = .int .i64 i ∧ jv = .int .i64 j ∧ j ≤ l.length ∧ i < j ∧ i = (kept p (l.take j)).length ∧ Fr (fun k => k = b) w wr ∧ wr.heap[b]? = some (.cells c 3 (0, 0)) ∧ c.size = cap ∧
        (∀ (t : Nat) (y : Int), (kept p (l.take j))[t]? = some y → c[t]? = some (.int .i64 y)) ∧ (∀ t (ht : t < l.length), j ≤ t → c[t]? = some (.int .i64 l[t]))) (fun _ jv _ _ => l.length - (intOf jv).toNat)
    case atStart =>
      refine ⟨i0, i0 + 1, cur, rfl, by go_num, by omega, by omega, by rw [HK0.out]; simp; omega, F1.out.mono (fun _ _ h => h.elim), HG1.out, hcs, ?_, fun t ht _ => HC.out t ht⟩
      intro t y hy
      rw [HK0.out, List.getElem?_take] at hy
      split at hy
      · have ht := (List.getElem?_eq_some_iff.1 hy).1
        have := HC.out t ht
        rw [List.getElem?_eq_getElem ht] at hy
        rw [this]; cases hy; rfl
      · cases hy
    case round =>
      obtain ⟨i, j, c, rfl, rfl, hj, hij, hik, hfr, hblk, hcz, hpre, hsuf⟩ := hrel
      have FR := Lib.hid hfr; clear hfr
      have HP := Lib.hid hpre; clear hpre
      have HX := Lib.hid hsuf; clear hsuf
      have HBK := Lib.hid hblk; clear hblk
      have HIK := Lib.hid hik; clear hik
      have HCZ := Lib.hid hcz; clear hcz
      by_cases hjl : j < l.length
      · have hcell : wr.cell? ⟨b, 0 + j, none⟩ = some (.int .i64 l[j]) := by rw [Lib.cell_of_heap HBK.out, Nat.zero_add]; exact HX.out j hjl (Nat.le_refl _)
        rw [Nat.zero_add] at hcell
        have hcall := HCL.out l[j] wr FR.out
        have hks := kept_snoc p l j hjl
        have HKS := Lib.hid hks; clear hks
        have HCALL := Lib.hid hcall; clear hcall
        generalize hy : l[j] = y at *
        cases hpy : p y
        · rw [hpy] at HCALL HKS
          go_wp2_with fail
          refine HCALL.out.mono ?_
          rintro e w2 ⟨rfl, hf2⟩
          have hb2 : w2.heap[b]? = some (.cells c 3 (0, 0)) := by rw [hf2.block b (lt_of_cell hcell) (fun h => h)]; exact HBK.out
          have hci : w2.cell? ⟨b, i, none⟩ = some ((c[i]?).getD default) := by
            rw [Lib.cell_of_heap hb2]
            rw [Array.getElem?_eq_getElem (by rw [HCZ.out]; omega)]; rfl
          have hzi : w2.frozen? ⟨b, i, none⟩ = false := Lib.frozen_of_heap hb2 i
          have hset := blk_set1 hb2 i (.int .i64 y)
          have FR2 := Lib.hid ((FR.out.trans hf2 (fun _ h => h.elim)).setCell (p := ⟨b, i, none⟩) (.inl rfl) (.int .i64 y)); clear hf2
          have HSET := Lib.hid hset; clear hset hb2
          generalize (c[i]?).getD default = old at hci
          go_wp2_with fail
          go_roundw
          case rel =>
            have hk1 : kept p (l.take (j + 1)) = kept p (l.take j) ++ [y] := by rw [HKS.out]; rfl
            refine ⟨i + 1, j + 1, _, by go_num, by go_num, by omega, by omega, by rw [hk1, List.length_append, ← HIK.out]; rfl, FR2.out, HSET.out, by rw [Array.size_setIfInBounds]; exact HCZ.out, ?_, ?_⟩
            · intro t z hz
              rw [hk1] at hz
              rcases Nat.lt_trichotomy t i with h1 | h1 | h1
              · rw [List.getElem?_append_left (by rw [← HIK.out]; exact h1)] at hz
                rw [Array.getElem?_setIfInBounds_ne (by omega)]; exact HP.out t z hz
              · subst h1
                rw [HIK.out, List.getElem?_append_right (Nat.le_refl _), Nat.sub_self] at hz
                simp at hz; subst hz
                have : t < c.size := by rw [HCZ.out]; omega
                simp [this]
              · rw [List.getElem?_eq_none (by rw [List.length_append, ← HIK.out]; simp; omega)] at hz; cases hz
            · intro t ht hjt
              rw [Array.getElem?_setIfInBounds_ne (by omega)]; exact HX.out t ht (by omega)
          case measure => simp [intOf]; omega
        · rw [hpy] at HCALL HKS
          go_wp2_with fail
          refine HCALL.out.mono ?_
          rintro e w2 ⟨rfl, hf2⟩
          have hb2 : w2.heap[b]? = some (.cells c 3 (0, 0)) := by rw [hf2.block b (lt_of_cell hcell) (fun h => h)]; exact HBK.out
          have HB2 := Lib.hid hb2; clear hb2
          have FR2 := Lib.hid (FR.out.trans hf2 (fun _ h => h.elim)); clear hf2
          go_wp2_with fail
          go_roundw
          case rel =>
            have hk1 : kept p (l.take (j + 1)) = kept p (l.take j) := by rw [HKS.out]; rfl
            exact ⟨i, j + 1, c, rfl, by go_num, by omega, by omega, by rw [hk1]; exact HIK.out, FR2.out, HB2.out, HCZ.out, by rw [hk1]; exact HP.out, fun t ht hjt => HX.out t ht (by omega)⟩
          case measure => simp [intOf]; omega
      · obtain rfl : j = l.length := by omega
        have hkl : kept p (l.take l.length) = kept p l := by rw [List.take_length]
        have hil : i = (kept p l).length := by rw [← hkl]; exact HIK.out
        have hcap1 : c.size = cap := HCZ.out
        have hrun : ∀ ty, (Builtin.clear_ #[25] ty #[.slice (some ⟨b, i, none⟩) (l.length - i) (cap - i)]).run Try.prog wr = .ok (.tuple #[]) (wr.setCells b i (List.replicate (l.length - i) (.int .i64 0))) :=
          fun ty => Lib.run_clear_slice wr _ _ ty (.int .i64 0) Try.underlying25 (fun w => Try.zeroValue3 w) rfl rfl b i _ _ (by omega)
            (fun t ht => by rw [Lib.cell_of_heap HBK.out]; simp; omega) (fun t ht => Lib.frozen_of_heap HBK.out _)
        obtain ⟨c2, g1, g2, g3, g4, g5⟩ := heap_setCells b (List.replicate (l.length - i) (.int .i64 0)) i wr c 3 (0, 0) HBK.out (by simp; omega)
        have FR2 := Lib.hid (FR.out.trans (fr_setCells b (List.replicate (l.length - i) (Value.int .i64 0)) i wr) (fun _ h => .inl h))
        have hs2 : SlA (wr.setCells b i (List.replicate (l.length - i) (.int .i64 0))) (some ⟨b, 0, none⟩) (kept p l).length cap (ints (kept p l)) := by
          refine sla_blk g1 (fun t y hy => ?_) (by omega) hcm
          have ht := (List.getElem?_eq_some_iff.1 hy).1
          rw [g3 t (by omega)]
          exact HP.out t y (by rw [hkl]; exact hy)
        have HS2 := Lib.hid hs2; clear hs2 g1 g2 g3 g4 g5
        have HIL := Lib.hid hil; clear hil hkl hcap1
        have hci : ¬ cap = i := by omega
        have hcz : ¬ (l.length : Int) < i := by omega
        go_wp2_with fail
        go_ret
        exact ⟨_, _, by rw [HIL.out]; rfl, HS2.out, FR2.out.mono (fun k _ hk => (HS.out k).2 hk), fun q hq => by cases hq; exact (HS.out _).2 rfl⟩
  · have hir : idxF p l = -1 := by unfold idxF; rw [if_neg hah]
    rw [hir] at hidx
    have hk := kept_all (ahead_none hah)
    rw [hk]
    have HI := Lib.hid hidx; clear hidx hir hk
    have HS := Lib.hid hs; clear hs hp hown hb
    subst hv
    go_enter Try.func53, Try.ntmps53
    go_wp2_with fail
    refine HI.out.mono ?_
    rintro e w1 ⟨rfl, hf1⟩
    have HS1 := Lib.hid (HS.out.keep hf1 (fun _ _ h => h))
    have F1 := Lib.hid (hf1.mono (T := fun k => (Value.slice a l.length cap).ownBlock = some k) (fun _ _ h => h.elim)); clear hf1
    go_wp2_with fail
    go_ret
    exact ⟨_, _, rfl, HS1.out, F1.out, fun q hq => by rw [hq]; rfl⟩
end Go.Proofs.Ytelepohdfcjnfaa
