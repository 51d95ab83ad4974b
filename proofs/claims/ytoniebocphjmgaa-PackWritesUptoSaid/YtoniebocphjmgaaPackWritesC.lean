/-
  The closure of PackWrites that writes the parts. (Begun.)
-/
import Derived.Test.YtoniebocphjmgaaPackSpeaks
import Derived.Test.YtoniebocphjmgaaPackWritesSpec
import Derived.Test.YtoniebocphjmgaaRegionY
import Derived.OpenShut
namespace Go.Proofs.Ytoniebocphjmgaa
open Go.RowKit Go.Proofs

theorem WrAt.alloc {B : Nat} {S : Nat → Prop} {w : World} {b : Nat} {p v : Value} {bs : List Value} (h : WrAt B S w b p v bs) (o : Obj) : WrAt B S (w.alloc o) b p v bs :=
  h.keep ((Fr.refl (fun _ => False) w).alloc o) (fun _ _ h => h.elim) (fun _ _ h => h.elim)

/-- a variable below the writer's memory is turned -/
theorem WrAt.below {B : Nat} {S : Nat → Prop} {w : World} {b : Nat} {p v : Value} {bs : List Value} (h : WrAt B S w b p v bs) (q : Nat) (u : Value) (hq : q < B) (hS : ¬ S q) : WrAt B S (w.setCell ⟨q, 0, none⟩ u) b p v bs :=
  h.keep (T := fun k => k = q) ((Fr.refl (fun k => k = q) w).setCell (p := ⟨q, 0, none⟩) (.inl rfl) _) (fun k _ h1 => h1 ▸ hS) (fun k _ h1 h2 => by subst h1; omega)


/-- what a part's four cells give a walk -/
theorem part_cells {W : World} {al : Option Addr} {n cap : Nat} {l : List Part} (h : SlA W al n cap (l.flatMap Part.cells)) {i : Nat} (hi : i < l.length) :
    ∃ g o, al = some ⟨g, o, none⟩ ∧ W.cell? ⟨g, o + i * 4, none⟩ = some (.int .i64 l[i].what) ∧ W.cell? ⟨g, o + i * 4 + 1, none⟩ = some (.int .u64 l[i].n) ∧ W.cell? ⟨g, o + i * 4 + 2, none⟩ = some (.int .i64 l[i].size) ∧ W.cell? ⟨g, o + i * 4 + 3, none⟩ = some (.string l[i].text) := by
  have flat : ∀ (l : List Part) (i r : Nat) (u : Value) (hi : i < l.length), l[i].cells[r]? = some u → r < 4 → (l.flatMap Part.cells)[i * 4 + r]? = some u := by
    intro l
    induction l with
    | nil => intro i r u hi; simp at hi
    | cons p l ih =>
      intro i r u hi hu hr
      have hp : p.cells.length = 4 := rfl
      rw [List.flatMap_cons]
      cases i with
      | zero => rw [List.getElem?_append_left (by omega)]; simpa using hu
      | succ i =>
        rw [List.getElem?_append_right (by omega), hp, show (i + 1) * 4 + r - 4 = i * 4 + r by omega]
        exact ih i r u (by simpa using hi) (by simpa using hu) hr
  obtain ⟨g, o, rfl, c0⟩ := h.cell (i * 4 + 0) _ (flat l i 0 _ hi rfl (by omega))
  refine ⟨g, o, rfl, c0, ?_, ?_, ?_⟩
  · obtain ⟨g', o', he, c⟩ := h.cell (i * 4 + 1) _ (flat l i 1 _ hi rfl (by omega)); cases he; exact c
  · obtain ⟨g', o', he, c⟩ := h.cell (i * 4 + 2) _ (flat l i 2 _ hi rfl (by omega)); cases he; exact c
  · obtain ⟨g', o', he, c⟩ := h.cell (i * 4 + 3) _ (flat l i 3 _ hi rfl (by omega)); cases he; exact c

/-- where the parts lie: not among the blocks of the writer, nor in the variable -/
def PartsAt (al : Option Addr) (S : Nat → Prop) (Q : Nat) : Prop := ∀ p, al = some p → ¬ S p.block ∧ p.block ≠ Q

/-- what comes of the parts -/
def wrOut (r : List UInt8 × Int) : WOut := if r.2 = 0 then .ok r.1 else .ref r.2

def WrE (B : Nat) (S : Nat → Prop) (b Q : Nat) (w0 : World) (l : List Part) (e : Ending) (w' : World) : Prop :=
  Fr (fun k => S k ∨ k = Q) w0 w' ∧ w'.cell? ⟨Q, 0, none⟩ = some (.int .i64 (lastPart l)) ∧ WEnds B S b w' (wrOut (writes l)) e

set_option maxHeartbeats 2000000 in
set_option maxRecDepth 100000 in
theorem writes1_any (b L Q B : Nat) (S : Nat → Prop) (al : Option Addr) (cl : Nat) (l : List Part) (w0 : World) (h0 : WrAt B S w0 b (.pointer none) (.slice none 0 0) []) (cL : w0.cell? ⟨L, 0, none⟩ = some (.slice al l.length cl)) (cQ : w0.cell? ⟨Q, 0, none⟩ = some (.int .i64 (-1))) (zQ : w0.frozen? ⟨Q, 0, none⟩ = false)
    (hQB : Q < B) (hLQ : L ≠ Q) (hLS : ¬ S L) (hQS : ¬ S Q) (hPA : l ≠ [] → PartsAt al S Q)
    (hal : SlA w0 al l.length cl (l.flatMap Part.cells)) (hlen : l.length ≤ 12) (hfit : ∀ p ∈ l, p.fits) (hbulk : ∀ p ∈ l, p.text.size ≤ 1048576) :
    Calls Try.prog 30 #[.pointer (some ⟨b, 0, none⟩), .pointer (some ⟨L, 0, none⟩), .pointer (some ⟨Q, 0, none⟩)] w0 (WrE B S b Q w0 l) := by
  have H0 := Lib.hid h0; clear h0
  have HAL := Lib.hid hal; clear hal
  have HF := Lib.hid hfit; clear hfit
  have HBK := Lib.hid hbulk; clear hbulk
  have HPA := Lib.hid hPA; clear hPA
  go_enter Try.func30, Try.ntmps30
  go_wp2_with fail
  go_loopw [4] (fun iv wr => ∃ (i : Nat) (p v : Value) (bs : List UInt8), iv = .int .i64 i ∧ i ≤ l.length ∧ WrAt B S wr b p v (Lib.byteCells bs) ∧ Fr (fun k => S k ∨ k = Q) w0 wr ∧ wr.cell? ⟨Q, 0, none⟩ = some (.int .i64 ((i : Int) - 1)) ∧ wr.frozen? ⟨Q, 0, none⟩ = false ∧
      bs.length ≤ 1048577 * i ∧ writes l = (bs ++ (writes (l.drop i)).1, (writes (l.drop i)).2) ∧ lastPart l = i + lastPart (l.drop i)) (fun iv _ => l.length - (intOf iv).toNat)
  case atStart => exact ⟨0, _, _, [], rfl, Nat.zero_le _, H0.out, Fr.refl _ _, cQ, zQ, by simp, rfl, by simp⟩
  case round =>
    obtain ⟨i, p, v, bs, rfl, hi, hw, hf, hq, hz, hbl, hwr, hla⟩ := hrel
    have q1 := hf.cell cL (by simp [hLS, hLQ])
    have HW := Lib.hid hw; clear hw
    have HFR := Lib.hid hf; clear hf
    have HWR := Lib.hid hwr; clear hwr
    have HLA := Lib.hid hla; clear hla
    by_cases hil : i < l.length
    · have hp := HF.out _ (List.getElem_mem hil)
      have hbk := HBK.out _ (List.getElem_mem hil)
      have hpl := part_len _ hbk
      have e1 := HWR.out
      have e2 := HLA.out
      rw [drop_part hil] at e1 e2
      obtain ⟨g, o, rfl, hc0, hc1, hc2, hc3⟩ := part_cells (HAL.out.keep HFR.out (by intro p hp; have := HPA.out (fun h => by rw [h] at hil; exact absurd hil (Nat.not_lt_zero _)) p hp; intro h; rcases h with h | h; exact this.1 h; exact this.2 h)) hil
      have hgQ : g ≠ Q := (HPA.out (fun h => by rw [h] at hil; exact absurd hil (Nat.not_lt_zero _)) _ rfl).2
      generalize l[i] = x at *
      have E1 := Lib.hid e1; clear e1
      have E2 := Lib.hid e2; clear e2
      have hk := kind_range x
      rw [kind_eq] at hk
      have ht := tmod4 x.what
      have hx1 := Go.bounds_i64 hp.1
      have hx2 := Go.bounds_u64 hp.2.1
      have hx3 := Go.bounds_i64 hp.2.2.1
      have hw1 : WrAt B S ((wr.setCell ⟨Q, 0, none⟩ (.int .i64 i)).alloc (.cells #[.int .i64 x.what, .int .u64 x.n, .int .i64 x.size, .string x.text] 52)) b p v (Lib.byteCells bs) := (HW.out.below Q _ hQB hQS).alloc _
      have hf1 : Fr (fun k => S k ∨ k = Q) w0 ((wr.setCell ⟨Q, 0, none⟩ (.int .i64 i)).alloc (.cells #[.int .i64 x.what, .int .u64 x.n, .int .i64 x.size, .string x.text] 52)) := (HFR.out.setCell (p := ⟨Q, 0, none⟩) (.inl (.inr rfl)) _).alloc _
      have hcq1 : ((wr.setCell ⟨Q, 0, none⟩ (.int .i64 i)).alloc (.cells #[.int .i64 x.what, .int .u64 x.n, .int .i64 x.size, .string x.text] 52)).cell? ⟨Q, 0, none⟩ = some (.int .i64 i) := Lib.cell?_alloc_some _ (World.cell?_setCell_same _ _ _ hq)
      have hzq1 : ((wr.setCell ⟨Q, 0, none⟩ (.int .i64 i)).alloc (.cells #[.int .i64 x.what, .int .u64 x.n, .int .i64 x.size, .string x.text] 52)).frozen? ⟨Q, 0, none⟩ = false := by
        rw [World.frozen?_of_block (w := wr.setCell ⟨Q, 0, none⟩ (.int .i64 i)) (Below.heap_alloc _ _ _ (lt_of_cell (World.cell?_setCell_same _ _ _ hq))), World.frozen?_setCell]; exact hz
      have H1 : Hid (WrAt B S _ b p v (Lib.byteCells bs) ∧ Fr (fun k => S k ∨ k = Q) w0 _ ∧ World.cell? _ ⟨Q, 0, none⟩ = some (.int .i64 i) ∧ World.frozen? _ ⟨Q, 0, none⟩ = false) := Lib.hid ⟨hw1, hf1, hcq1, hzq1⟩
      clear hw1 hf1 hcq1 hzq1
      -- what stands behind a part that is well
      have good : ∀ (w2 : World) (p' v' : Value), partBad x = 0 → WrAt B S w2 b p' v' (Lib.byteCells (bs ++ partBytes x)) → Fr S ((wr.setCell ⟨Q, 0, none⟩ (.int .i64 i)).alloc (.cells #[.int .i64 x.what, .int .u64 x.n, .int .i64 x.size, .string x.text] 52)) w2 →
          WrAt B S w2 b p' v' (Lib.byteCells (bs ++ partBytes x)) ∧ Fr (fun k => S k ∨ k = Q) w0 w2 ∧ w2.cell? ⟨Q, 0, none⟩ = some (.int .i64 (((i + 1 : Nat) : Int) - 1)) ∧ w2.frozen? ⟨Q, 0, none⟩ = false ∧ (bs ++ partBytes x).length ≤ 1048577 * (i + 1) ∧
            writes l = (bs ++ partBytes x ++ (writes (l.drop (i + 1))).1, (writes (l.drop (i + 1))).2) ∧ lastPart l = ((i + 1 : Nat) : Int) + lastPart (l.drop (i + 1)) := by
        intro w2 p' v' hb0 h2 hfr2
        obtain ⟨_, hf1, hcq1, hzq1⟩ := H1.out
        refine ⟨h2, hf1.trans hfr2 (fun k hk => .inl (.inl hk)), ?_, ?_, ?_, ?_, ?_⟩
        · rw [hfr2.cell hcq1 hQS]; congr 2; omega
        · rw [hfr2.frozen hcq1 hQS]; exact hzq1
        · simp only [List.length_append]; omega
        · rw [E1.out, writes_go hb0, List.append_assoc]
        · rw [E2.out, last_go hb0]; omega
      have bad : ∀ (c : Int), partBad x = c → c ≠ 0 → WrE B S b Q w0 l (.panicked [{ v := refused c, recovered := false }]) ((wr.setCell ⟨Q, 0, none⟩ (.int .i64 i)).alloc (.cells #[.int .i64 x.what, .int .u64 x.n, .int .i64 x.size, .string x.text] 52)) := by
        intro c hc h0
        obtain ⟨_, hf1, hcq1, hzq1⟩ := H1.out
        have hb0 : partBad x ≠ 0 := by rw [hc]; exact h0
        refine ⟨hf1, ?_, ?_⟩
        · rw [E2.out, last_stop hb0, hcq1]; simp
        · rw [E1.out, writes_stop hb0, hc]
          simp only [wrOut, if_neg h0]
          exact .ref c h0
      have GOOD := Lib.hid good; clear good
      have BAD := Lib.hid bad; clear bad
      by_cases k0 : partKind x = 0
      · by_cases hok : NumOk x.n.toNat x.size
        · have hb0 : partBad x = 0 := by unfold partBad; rw [if_pos k0, if_neg (by rw [bytes_nil_or]; exact fun h => h hok)]
          have hby : partBytes x = bigEnd x.size.toNat x.n.toNat := by unfold partBytes; rw [if_pos k0, bytes_ok hok]
          have HBY := Lib.hid hby; clear hby
          have HB0 := Lib.hid hb0; clear hb0
          rw [kind_eq] at k0
          go_wp2_with fail
          refine (writerNum_any B S _ b p v _ x.n x.size H1.out.1 hx2.1 (by omega) (by simp [Lib.byteCells_length]; omega) hok).mono ?_
          rintro e w2 ⟨rfl, ⟨p2, v2, h2⟩, hf2⟩
          have hg := GOOD.out w2 p2 v2 HB0.out (by rw [HBY.out]; simpa [Lib.byteCells] using h2) hf2
          obtain ⟨g1, g2, g3, g4, g5, g6, g7⟩ := hg
          have G1 := Lib.hid g1; clear g1
          have G6 := Lib.hid g6; clear g6
          have G7 := Lib.hid g7; clear g7
          clear h2 hf2
          go_wp2_with fail
          go_roundw
          case rel => exact ⟨i + 1, p2, v2, bs ++ partBytes x, by go_num, by omega, G1.out, g2, g3, g4, g5, G6.out, G7.out⟩
          case measure => simp [intOf]; omega
        · have hb0 : partBad x = 11 := by unfold partBad; rw [if_pos k0, if_pos ((bytes_nil_or _ _).2 hok)]
          have HB0 := Lib.hid hb0; clear hb0
          rw [kind_eq] at k0
          go_wp2_with fail
          refine (writerNum_bad _ x.n x.size _ hx2.1 (by omega) hx3.1 hx3.2 hok).mono ?_
          rintro e w2 ⟨rfl, rfl⟩
          have hb := BAD.out 11 HB0.out (by decide)
          have HB := Lib.hid hb; clear hb
          go_wp2_with fail
          exact ⟨rfl, HB.out⟩
      · by_cases k1 : partKind x = 1
        · by_cases hlen : x.text.size ≤ 255
          · have hb0 : partBad x = 0 := by unfold partBad; rw [if_neg k0, if_pos k1, if_neg (by omega)]
            have hby : partBytes x = UInt8.ofNat x.text.size :: x.text.data.toList := by unfold partBytes; rw [if_neg k0, if_pos k1]
            have HBY := Lib.hid hby; clear hby
            have HB0 := Lib.hid hb0; clear hb0
            rw [kind_eq] at k1
            clear k0
            go_wp2_with fail
            refine (writerText_any B S _ b p v _ x.text H1.out.1 (by simp [Lib.byteCells_length]; omega) hlen).mono ?_
            rintro e w2 ⟨rfl, ⟨p2, v2, h2⟩, hf2⟩
            have hg := GOOD.out w2 p2 v2 HB0.out (by
              rw [HBY.out]
              have e3 : Lib.byteCells (bs ++ UInt8.ofNat x.text.size :: x.text.data.toList) = Lib.byteCells bs ++ (.int .u8 x.text.size :: Lib.strCells x.text) := by
                have : x.text.size % 256 = x.text.size := Nat.mod_eq_of_lt (by omega)
                simp [Lib.byteCells, Lib.strCells, this]
              rw [e3]; exact h2) hf2
            obtain ⟨g1, g2, g3, g4, g5, g6, g7⟩ := hg
            have G1 := Lib.hid g1; clear g1
            have G6 := Lib.hid g6; clear g6
            have G7 := Lib.hid g7; clear g7
            clear h2 hf2
            go_wp2_with fail
            go_roundw
            case rel => exact ⟨i + 1, p2, v2, bs ++ partBytes x, by go_num, by omega, G1.out, g2, g3, g4, g5, G6.out, G7.out⟩
            case measure => simp [intOf]; omega
          · have hb0 : partBad x = 3 := by unfold partBad; rw [if_neg k0, if_pos k1, if_pos (by omega)]
            have HB0 := Lib.hid hb0; clear hb0
            rw [kind_eq] at k1
            clear k0
            go_wp2_with fail
            refine (writerText_bad _ x.text _ (by omega) (by omega)).mono ?_
            rintro e w2 ⟨rfl, rfl⟩
            have hb := BAD.out 3 HB0.out (by decide)
            have HB := Lib.hid hb; clear hb
            go_wp2_with fail
            exact ⟨rfl, HB.out⟩
        · by_cases k2 : partKind x = 2
          · have hb0 : partBad x = 0 := by unfold partBad; rw [if_neg k0, if_neg k1, if_pos k2]
            have hby : partBytes x = x.text.data.toList := by unfold partBytes; rw [if_neg k0, if_neg k1]
            have HBY := Lib.hid hby; clear hby
            have HB0 := Lib.hid hb0; clear hb0
            rw [kind_eq] at k2
            clear k0 k1
            go_wp2_with fail
            refine (writerRaw_any B S _ b p v _ x.text H1.out.1 (by simp [Lib.byteCells_length]; omega)).mono ?_
            rintro e w2 ⟨rfl, ⟨v2, h2⟩, hf2⟩
            have hg := GOOD.out w2 _ v2 HB0.out (by
              rw [HBY.out]
              have e3 : Lib.byteCells (bs ++ x.text.data.toList) = Lib.byteCells bs ++ Lib.strCells x.text := by
                simp [Lib.byteCells, Lib.strCells]
              rw [e3]; exact h2) hf2
            obtain ⟨g1, g2, g3, g4, g5, g6, g7⟩ := hg
            have G1 := Lib.hid g1; clear g1
            have G6 := Lib.hid g6; clear g6
            have G7 := Lib.hid g7; clear g7
            clear h2 hf2
            go_wp2_with fail
            go_roundw
            case rel => exact ⟨i + 1, _, v2, bs ++ partBytes x, by go_num, by omega, G1.out, g2, g3, g4, g5, G6.out, G7.out⟩
            case measure => simp [intOf]; omega
          · have k3 : (x.what.tmod 4 + 4) % 4 = 3 := by rw [kind_eq] at k0 k1 k2; omega
            by_cases hs : 0 < x.size ∧ x.size < 17
            · have hb0 : partBad x = x.size := by unfold partBad; rw [if_neg k0, if_neg k1, if_neg k2, if_pos hs]
              have HB0 := Lib.hid hb0; clear hb0
              have hs1 := hs.1
              have hs2 := hs.2
              have hs0 : ¬ x.size = 0 := by omega
              clear k0 k1 k2
              go_wp2_with fail
              refine (refuse_any x.size _).mono ?_
              rw [if_neg hs0]
              rintro e w2 ⟨rfl, rfl⟩
              have hb := BAD.out x.size HB0.out hs0
              have HB := Lib.hid hb; clear hb
              go_wp2_with fail
              exact ⟨rfl, HB.out⟩
            · have hb0 : partBad x = 4 := by unfold partBad; rw [if_neg k0, if_neg k1, if_neg k2, if_neg hs]
              have HB0 := Lib.hid hb0; clear hb0
              clear k0 k1 k2
              by_cases hs1 : 0 < x.size
              · have hs2 : ¬ x.size < 17 := by omega
                clear hs
                go_wp2_with fail
                refine (refuse_any 0 _).mono ?_
                rintro e w2 ⟨rfl, rfl⟩
                have hb := BAD.out 4 HB0.out (by decide)
                have HB := Lib.hid hb; clear hb
                go_wp2_with fail
                exact ⟨rfl, HB.out⟩
              · clear hs
                go_wp2_with fail
                refine (refuse_any 0 _).mono ?_
                rintro e w2 ⟨rfl, rfl⟩
                have hb := BAD.out 4 HB0.out (by decide)
                have HB := Lib.hid hb; clear hb
                go_wp2_with fail
                exact ⟨rfl, HB.out⟩
    · obtain rfl : i = l.length := by omega
      have e1 := HWR.out
      have e2 := HLA.out
      rw [List.drop_eq_nil_of_le (Nat.le_refl _)] at e1 e2
      have E1 := Lib.hid e1; clear e1
      have E2 := Lib.hid e2; clear e2
      go_wp2_with fail
      go_end0
      refine ⟨HFR.out, ?_, ?_⟩
      · rw [E2.out, hq]; simp [lastPart]; omega
      · rw [E1.out]
        simp only [writes, wrOut, if_pos]
        exact .ok _ p v (by simpa using HW.out)
end Go.Proofs.Ytoniebocphjmgaa
