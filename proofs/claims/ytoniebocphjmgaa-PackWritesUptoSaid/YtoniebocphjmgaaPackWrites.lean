/-
  The walk of PackWrites.
-/
import Derived.Test.YtoniebocphjmgaaPackWritesR
import Derived.Test.YtoniebocphjmgaaRegionY
namespace Go.Proofs.Ytoniebocphjmgaa
open Go.RowKit Go.Proofs

theorem cut_parts (W : World) (al : Option Addr) (cl : Nat) (l : List Part) (hl : SlA W al l.length cl (l.flatMap Part.cells)) :
    ∃ l' : List Part, l'.length ≤ 12 ∧ l' = l.take 12 ∧ SlA W al l'.length cl (l'.flatMap Part.cells) ∧ (if (12 : Int) < (l.length : Int) then (12 : Int) else (l.length : Int)) = (l'.length : Int) ∧ min (l.length : Int) 12 = (l'.length : Int) := by
  refine ⟨l.take 12, by simp; omega, rfl, ?_, ?_, ?_⟩
  · refine ⟨by have := hl.le; simp; omega, hl.max, fun j u hj => hl.cell j u ?_⟩
    have e : l.flatMap Part.cells = (l.take 12).flatMap Part.cells ++ (l.drop 12).flatMap Part.cells := by rw [← List.flatMap_append, List.take_append_drop]
    rw [e, List.getElem?_append_left (List.getElem?_eq_some_iff.1 hj).1]; exact hj
  · simp only [List.length_take]; split <;> omega
  · simp only [List.length_take]; omega

/-- how far the parts' reference has come -/
def WrRef (l : List Part) (i : Nat) (bs : List UInt8) (c d : Int) : Prop :=
  i ≤ l.length ∧ bs.length ≤ 1048577 * i ∧
  (c = 0 → writes l = (bs ++ (writes (l.drop i)).1, (writes (l.drop i)).2) ∧ lastPart l = i + lastPart (l.drop i) ∧ (d : Int) = (if i = 0 then 0 else (i : Int) - 1)) ∧
  (c ≠ 0 → (writes l).2 = c ∧ d = lastPart l)

theorem WrRef.ends {l : List Part} {i : Nat} {bs : List UInt8} {c d : Int} (h : WrRef l i bs c d) (hs : ¬ (c = 0 ∧ i < l.length)) : (writes l).2 = c ∧ (c = 0 → (writes l).1 = bs) ∧ (l ≠ [] → d = lastPart l) := by
  obtain ⟨h1, _, h2, h3⟩ := h
  by_cases hc : c = 0
  · obtain ⟨a1, a2, a3⟩ := h2 hc
    have hi : i = l.length := by
      apply Classical.byContradiction
      intro h; exact hs ⟨hc, by omega⟩
    rw [hi, List.drop_eq_nil_of_le (Nat.le_refl _)] at a1 a2
    refine ⟨by rw [a1, hc]; rfl, fun _ => by rw [a1]; simp [writes], fun hl => ?_⟩
    have : 0 < l.length := List.length_pos_iff.2 hl
    rw [a2, a3, if_neg (by omega)]; simp only [lastPart]; omega
  · obtain ⟨a1, a2⟩ := h3 hc
    exact ⟨a1, fun h => absurd h hc, fun _ => a2⟩

theorem WrRef.good {l : List Part} {i : Nat} {bs : List UInt8} {d : Int} (h : WrRef l i bs 0 d) (hi : i < l.length) (hb : partBad l[i] = 0) (hk : l[i].text.size ≤ 1048576) : WrRef l (i + 1) (bs ++ partBytes l[i]) 0 i := by
  obtain ⟨h1, h4, h2, h3⟩ := h
  obtain ⟨a1, a2, a3⟩ := h2 rfl
  have := part_len _ hk
  rw [drop_part hi] at a1 a2
  refine ⟨by omega, by simp only [List.length_append]; omega, fun _ => ⟨?_, ?_, ?_⟩, fun h => absurd rfl h⟩
  · rw [a1, writes_go hb, List.append_assoc]
  · rw [a2, last_go hb]; omega
  · rw [if_neg (by omega)]; omega
theorem WrRef.bad {l : List Part} {i : Nat} {bs bs' : List UInt8} {d c : Int} (h : WrRef l i bs 0 d) (hi : i < l.length) (hb : partBad l[i] = c) (h0 : c ≠ 0) (hk : bs'.length ≤ 1048577 * (i + 1)) : WrRef l (i + 1) bs' c i := by
  obtain ⟨h1, h4, h2, h3⟩ := h
  obtain ⟨a1, a2, a3⟩ := h2 rfl
  rw [drop_part hi] at a1 a2
  have hb' : partBad l[i] ≠ 0 := by rw [hb]; exact h0
  refine ⟨by omega, hk, fun h => absurd h h0, fun _ => ⟨?_, ?_⟩⟩
  · rw [a1, writes_stop hb']; exact hb
  · rw [a2, last_stop hb']; omega

theorem refNum_any (n size : Int) (w : World) (h0 : 0 ≤ n) (hn : n < 18446744073709551616) :
    Calls Try.prog 29 #[.int .u64 n, .int .i64 size] w fun e w' => e = .returned (.string ⟨(numBytes n.toNat size).toArray⟩) ∧ Below w.heap.size w w' := by
  by_cases h : size < 1 ∨ 8 < size
  · have e : numBytes n.toNat size = [] := by unfold numBytes; rw [if_neg (by omega)]
    rw [e]
    exact refNum_out n size w h
  · exact refNum_in n size w h0 hn (by omega) (by omega)

theorem cat_bytes (a b : List UInt8) : (ByteArray.mk a.toArray) ++ (ByteArray.mk b.toArray) = ⟨(a ++ b).toArray⟩ := by
  apply ByteArray.ext; simp

theorem cat_str (a : List UInt8) (s : ByteArray) : Value.string ((ByteArray.mk a.toArray) ++ s) = .string ⟨(a ++ s.data.toList).toArray⟩ := by
  congr 1
theorem cat_text (a : List UInt8) (b : UInt8) (s : ByteArray) : Value.string ((ByteArray.mk a.toArray) ++ ((ByteArray.mk #[b]) ++ s)) = .string ⟨(a ++ b :: s.data.toList).toArray⟩ := by
  congr 1

/-- the variable and the call that writes the parts -/
theorem writes_call (L : Nat) (al : Option Addr) (cl : Nat) (l : List Part) (w : World) (cL : w.cell? ⟨L, 0, none⟩ = some (.slice al l.length cl)) (hPA : ∀ p, al = some p → l ≠ [] → p.block < w.heap.size)
    (hal : SlA w al l.length cl (l.flatMap Part.cells)) (hlen : l.length ≤ 12) (hfit : ∀ p ∈ l, p.fits) (hbulk : ∀ p ∈ l, p.text.size ≤ 1048576) :
    Calls Try.prog 25 #[.func (.func 30) #[] #[.pointer (some ⟨L, 0, none⟩), .pointer (some ⟨w.heap.size, 0, none⟩)]] (w.alloc (.cells #[.int .i64 (-1)] 3)) fun e w' =>
      e = (wrOut (writes l)).ending ∧ Fr (fun _ => False) w w' ∧ w'.cell? ⟨w.heap.size, 0, none⟩ = some (.int .i64 (lastPart l)) := by
  have hL := lt_of_cell cL
  simp only at hL
  obtain ⟨w5, hw5⟩ : ∃ w5, w5 = w.alloc (.cells #[.int .i64 (-1)] 3) := ⟨_, rfl⟩
  have hs5 : w5.heap.size = w.heap.size + 1 := by rw [hw5]; simp
  have hf5 : Fr (fun _ => False) w w5 := by rw [hw5]; exact (Fr.refl _ _).alloc _
  have cQ : w5.cell? ⟨w.heap.size, 0, none⟩ = some (.int .i64 (-1)) := by rw [hw5, World.cell?_alloc_at _ _ _ _ rfl]; rfl
  have zQ : w5.frozen? ⟨w.heap.size, 0, none⟩ = false := by
    rw [World.frozen?, hw5, heap_alloc_if, if_pos rfl]; rfl
  have cL5 := hf5.cell cL (fun h => h)
  have hal5 := hal.keep hf5 (fun _ _ h => h)
  rw [← hw5]
  clear hw5
  refine (packWrite_any 30 _ w5 (fun k => k = w.heap.size) (fun x w' => x = wrOut (writes l) ∧ w'.cell? ⟨w.heap.size, 0, none⟩ = some (.int .i64 (lastPart l))) (fun a w => enters_fn Try.func30 (by kernel_rfl) rfl _ w)
    (by intro k hk; omega) ?_).mono ?_
  · intro w6 hf6 hwr
    refine (writes1_any (w5.heap.size + 1) L w.heap.size w5.heap.size (wS w5.heap.size) al cl l w6 hwr (hf6.cell cL5 (fun h => h)) (hf6.cell cQ (fun h => h)) ((hf6.frozen cQ (fun h => h)).trans zQ) (by omega) (by omega)
      (by unfold wS; omega) (by unfold wS; omega) (fun hne p hp => by have := hPA p hp hne; unfold wS; omega) (hal5.keep hf6 (fun _ _ h => h)) hlen hfit hbulk).mono ?_
    rintro e w7 ⟨h1, h2, h3⟩
    exact ⟨h1, _, h3, rfl, h2⟩
  · rintro e w7 ⟨w0, x, ⟨rfl, hq⟩, he, hf7, hs7, hf8⟩
    refine ⟨he, ?_, hf7.cell hq (by simp; omega)⟩
    have h := (hf5.mono (T := fun k => w.heap.size ≤ k) (fun k _ h => h.elim)).trans hf8 (by intro k hk; left; omega)
    exact h.mono (fun k hk h => by omega)

/-- the variable and the call that reads the parts again -/
theorem reads_call (L : Nat) (al : Option Addr) (cl : Nat) (l : List Part) (w : World) (cL : w.cell? ⟨L, 0, none⟩ = some (.slice al l.length cl)) (hPA : ∀ p, al = some p → l ≠ [] → p.block < w.heap.size)
    (hal : SlA w al l.length cl (l.flatMap Part.cells)) (hlen : l.length ≤ 12) (hfit : ∀ p ∈ l, p.fits) (hbulk : ∀ p ∈ l, p.text.size ≤ 1048576) (hok : (writes l).2 = 0) (bs : List UInt8) (hbs : (writes l).1 = bs) (hsz : bs.length ≤ 9223372036854775807) :
    Calls Try.prog 34 #[.string ⟨bs.toArray⟩, .func (.func 35) #[] #[.pointer (some ⟨L, 0, none⟩), .pointer (some ⟨w.heap.size, 0, none⟩)]] (w.alloc (.cells #[.bool true] 4)) fun e w' =>
      e = .returned (.int .i64 0) ∧ Fr (fun _ => False) w w' ∧ w'.cell? ⟨w.heap.size, 0, none⟩ = some (.bool true) := by
  have hL := lt_of_cell cL
  simp only at hL
  obtain ⟨w5, hw5⟩ : ∃ w5, w5 = w.alloc (.cells #[.bool true] 4) := ⟨_, rfl⟩
  have hs5 : w5.heap.size = w.heap.size + 1 := by rw [hw5]; simp
  have hf5 : Fr (fun _ => False) w w5 := by rw [hw5]; exact (Fr.refl _ _).alloc _
  have cQ : w5.cell? ⟨w.heap.size, 0, none⟩ = some (.bool true) := by rw [hw5, World.cell?_alloc_at _ _ _ _ rfl]; rfl
  have zQ : w5.frozen? ⟨w.heap.size, 0, none⟩ = false := by
    rw [World.frozen?, hw5, heap_alloc_if, if_pos rfl]; rfl
  have cL5 := hf5.cell cL (fun h => h)
  have hal5 := hal.keep hf5 (fun _ _ h => h)
  rw [← hw5]
  clear hw5
  refine (packRead_any _ 35 _ w5 (fun k => k = w.heap.size) (fun x w' => x = .ok ByteArray.empty ∧ w'.cell? ⟨w.heap.size, 0, none⟩ = some (.bool true)) (by show (List.toArray bs).size ≤ _; rw [List.size_toArray]; exact hsz) (fun a w => enters_fn Try.func35 (by kernel_rfl) rfl _ w)
    (by intro k hk; omega) ?_).mono ?_
  · intro w6 hf6 hrd
    refine (writes2_any (w5.heap.size + 1) L w.heap.size al cl l w6 ⟨by rw [hbs]; exact hrd, hf6.cell cQ (fun h => h), (hf6.frozen cQ (fun h => h)).trans zQ, Fr.refl _ _⟩ (hf6.cell cL5 (fun h => h)) (by omega) (by omega) (by omega)
      (fun hne p hp => by have := hPA p hp hne; omega) (hal5.keep hf6 (fun _ _ h => h)) hlen hfit hbulk hok).mono ?_
    rintro e w7 ⟨h1, rfl⟩
    refine ⟨h1.fr.mono ?_, _, .ok _ h1.rd, rfl, h1.cS⟩
    intro k hk h
    rcases h with h | h
    · left; unfold wS; omega
    · right; exact h
  · rintro e w7 ⟨w0, x, ⟨rfl, hq⟩, he, hf7, hs7, hf8⟩
    refine ⟨by rw [he]; rfl, ?_, hf7.cell hq (by simp; omega)⟩
    have h := (hf5.mono (T := fun k => w.heap.size ≤ k) (fun k _ h => h.elim)).trans hf8 (by intro k hk; left; omega)
    exact h.mono (fun k hk h => by omega)

set_option maxHeartbeats 4000000 in
set_option maxRecDepth 100000 in
theorem packWrites_walk (al : Option Addr) (cl : Nat) (l : List Part) (W : World) (hl : SlA W al l.length cl (l.flatMap Part.cells)) (hfit : ∀ p ∈ l, p.fits) (hbulk : ∀ p ∈ l, p.text.size ≤ 1048576) :
    Calls Try.prog 8 #[.slice al l.length cl] W fun e w' => e = .returned (.bool true) ∧ Below W.heap.size W w' := by
  have hmf : ∀ (fn : Fn) (first cap : Array Value) (w : World), (Instr.makeFunc fn first cap).run Try.prog w = .ok (.func fn first cap) w := fun _ _ _ _ => rfl
  have hl1 := hl.le
  have hl2 := hl.max
  obtain ⟨l', hm1, hl', hl'2, hite, hmin⟩ := cut_parts W al cl l hl
  have hm3 : l'.length ≤ l.length := by rw [hl']; simp; omega
  have hf' : ∀ p ∈ l', p.fits := fun x hx => hfit x (by rw [hl'] at hx; exact List.mem_of_mem_take hx)
  have hb' : ∀ p ∈ l', p.text.size ≤ 1048576 := fun x hx => hbulk x (by rw [hl'] at hx; exact List.mem_of_mem_take hx)
  have hPA : ∀ p, al = some p → l' ≠ [] → p.block < W.heap.size := by
    rintro p rfl hne
    obtain ⟨b, o, he, hc⟩ := hl'2.lt (by cases l' with | nil => exact absurd rfl hne | cons x r => simp [Part.cells])
    cases he; exact hc
  clear hl' hfit hbulk hl
  obtain ⟨w1, hw1, hf1, hz1, b0⟩ : ∃ w1 : World, w1 = W.alloc (.cells #[.slice al l.length cl] 50) ∧ Fr (fun _ => False) W w1 ∧ w1.heap.size = W.heap.size + 1 ∧ w1.heap[W.heap.size]? = some (.cells #[.slice al l.length cl] 50) :=
    ⟨_, rfl, (Fr.refl _ W).alloc _, by simp, by rw [heap_alloc_if, if_pos rfl]⟩
  have HL := Lib.hid hl'2; clear hl'2
  have HF := Lib.hid hf'; clear hf'
  have HBK := Lib.hid hb'; clear hb'
  have HPA := Lib.hid hPA; clear hPA
  have HB1 : Hid (Below W.heap.size W w1) := Fr.below (Below.refl _ W) hf1 (Nat.le_refl _) (fun k hk => hk.elim)
  have c0 : w1.cell? ⟨W.heap.size, 0, none⟩ = some (.slice al l.length cl) := by rw [World.cell?, b0]; rfl
  have z0 : w1.frozen? ⟨W.heap.size, 0, none⟩ = false := by rw [World.frozen?, b0]; rfl
  clear b0 hf1
  go_enter Try.func8, Try.ntmps8
  go_wp2_with fail
  rw [← hw1]
  refine (speaks01 w1).mono ?_
  rintro e w2 ⟨rfl, hb2⟩
  have hs2 := hb2.size
  have c2 : w2.cell? ⟨W.heap.size, 0, none⟩ = some (.slice al l.length cl) := (hb2.cell (by simp <;> omega)).trans c0
  have z2 : w2.frozen? ⟨W.heap.size, 0, none⟩ = false := by rw [World.frozen?_of_block (w := w1) (hb2.block _ (by simp <;> omega))]; exact z0
  have HB2 := Lib.hid (HB1.out.trans (hb2.mono (by omega)))
  clear c0 z0 hb2 HB1 hw1
  go_wp2_with fail
  obtain ⟨w3, hw3⟩ : ∃ w3, w3 = w2.setCell ⟨W.heap.size, 0, none⟩ (.slice al l'.length cl) := ⟨_, rfl⟩
  rw [← hw3]
  have c3 : w3.cell? ⟨W.heap.size, 0, none⟩ = some (.slice al l'.length cl) := by rw [hw3]; exact World.cell?_setCell_same _ _ _ c2
  have HB3 : Hid (Below W.heap.size W w3) := by rw [hw3]; exact HB2.out.setCell (p := ⟨W.heap.size, 0, none⟩) (by simp) _
  have hlt3 := lt_of_cell c3
  simp only at hlt3
  clear hw3 c2 z2 HB2 hs2 hz1 hite hmin
  go_loopw [3, 4, 5, 6] (fun sv bv dv iv wr => ∃ (i : Nat) (bs : List UInt8) (c d : Int), iv = .int .i64 i ∧ sv = .string ⟨bs.toArray⟩ ∧ bv = .int .i64 c ∧ dv = .int .i64 d ∧ WrRef l' i bs c d ∧ Fr (fun _ => False) w3 wr) (fun _ _ _ iv _ => l'.length - (intOf iv).toNat)
  case atStart => exact ⟨0, [], 0, 0, rfl, rfl, rfl, rfl, ⟨Nat.zero_le _, by simp, fun _ => ⟨rfl, by simp, rfl⟩, fun h => absurd rfl h⟩, Fr.refl _ _⟩
  case round =>
    obtain ⟨i, bs, c, d, rfl, rfl, rfl, rfl, hr, hf⟩ := hrel
    have q1 := hf.cell c3 (fun h => h)
    have hi := hr.1
    have hbsl := hr.2.1
    have HRR := Lib.hid hr; clear hr
    have HFR := Lib.hid hf; clear hf
    by_cases hgo : c = 0 ∧ i < l'.length
    · obtain ⟨rfl, hil⟩ := hgo
      have hp := HF.out _ (List.getElem_mem hil)
      have hbk := HBK.out _ (List.getElem_mem hil)
      obtain ⟨g, o, rfl, hc0, hc1, hc2, hc3⟩ := part_cells ((HL.out.below HB3.out (Nat.le_refl _)).keep HFR.out (fun _ _ h => h)) hil
      have hgood := fun hb => HRR.out.good hil hb hbk
      have hbad := fun bs' c hb h0 hk => HRR.out.bad (bs' := bs') (c := c) hil hb h0 hk
      have GOOD := Lib.hid hgood; clear hgood
      have BAD := Lib.hid hbad; clear hbad
      generalize l'[i] = x at *
      have ht := tmod4 x.what
      have hk := kind_range x
      rw [kind_eq] at hk
      have hx1 := Go.bounds_i64 hp.1
      have hx2 := Go.bounds_u64 hp.2.1
      have hx3 := Go.bounds_i64 hp.2.2.1
      obtain ⟨wa, hwa⟩ : ∃ wa, wa = wr.alloc (.cells #[.int .i64 x.what, .int .u64 x.n, .int .i64 x.size, .string x.text] 52) := ⟨_, rfl⟩
      have HFA : Hid (Fr (fun _ => False) w3 wa) := by rw [hwa]; exact HFR.out.alloc _
      by_cases k0 : partKind x = 0
      · by_cases hok : NumOk x.n.toNat x.size
        · have hb0 : partBad x = 0 := by unfold partBad; rw [if_pos k0, if_neg (by rw [bytes_nil_or]; exact fun h => h hok)]
          have hby : numBytes x.n.toNat x.size = partBytes x := by unfold partBytes; rw [if_pos k0]
          have hne : (partBytes x).isEmpty = false := by
            simp only [List.isEmpty_eq_false_iff]
            intro h
            rw [← hby] at h
            exact (bytes_nil_or _ _).1 h hok
          have hpl := part_len _ hbk
          have G := Lib.hid (GOOD.out hb0)
          rw [kind_eq] at k0
          go_wp2_with fail
          rw [← hwa]
          clear hwa
          refine (refNum_any x.n x.size wa hx2.1 (by omega)).mono ?_
          rw [hby]
          rintro e w4 ⟨rfl, hb4⟩
          have HF4 : Hid (Fr (fun _ => False) w3 w4) := HFA.out.trans (Fr.of_below (S := fun _ => False) hb4 (fun k h1 h2 => by omega)) (fun _ h => h.elim)
          clear hby hb0
          go_wp2_with fail
          go_roundw
          case rel => exact ⟨i + 1, bs ++ partBytes x, 0, i, by go_num, by rw [cat_bytes], rfl, rfl, G.out, HF4.out⟩
          case measure => simp [intOf]; omega
        · have hb0 : partBad x = 11 := by unfold partBad; rw [if_pos k0, if_pos ((bytes_nil_or _ _).2 hok)]
          have hby : numBytes x.n.toNat x.size = [] := (bytes_nil_or _ _).2 hok
          have G := Lib.hid (BAD.out bs 11 hb0 (by decide) (by omega))
          rw [kind_eq] at k0
          go_wp2_with fail
          rw [← hwa]
          clear hwa
          refine (refNum_any x.n x.size wa hx2.1 (by omega)).mono ?_
          rw [hby]
          rintro e w4 ⟨rfl, hb4⟩
          have HF4 : Hid (Fr (fun _ => False) w3 w4) := HFA.out.trans (Fr.of_below (S := fun _ => False) hb4 (fun k h1 h2 => by omega)) (fun _ h => h.elim)
          clear hby hb0
          go_wp2_with fail
          go_roundw
          case rel => exact ⟨i + 1, bs, 11, i, by go_num, by show Value.string (_ ++ ⟨([] : List UInt8).toArray⟩) = _; rw [cat_bytes, List.append_nil], rfl, rfl, G.out, HF4.out⟩
          case measure => simp [intOf]; omega
      · by_cases k1 : partKind x = 1
        · have hpl := part_len _ hbk
          by_cases hlen : x.text.size ≤ 255
          · have hcv := conv_one (wr.alloc (.cells #[.int .i64 x.what, .int .u64 x.n, .int .i64 x.size, .string x.text] 52)) (UInt8.ofNat x.text.size) (x.text.size : Int) (by rw [UInt8.toNat_ofNat']; omega)
            simp only [World.size_alloc] at hcv
            have hb0 : partBad x = 0 := by unfold partBad; rw [if_neg k0, if_pos k1, if_neg (by omega)]
            have hby : partBytes x = UInt8.ofNat x.text.size :: x.text.data.toList := by unfold partBytes; rw [if_neg k0, if_pos k1]
            have G := Lib.hid (GOOD.out hb0)
            have HBY := Lib.hid hby; clear hby
            have HFB := Lib.hid (HFA.out.alloc (.cells #[.int .u8 x.text.size] 5))
            clear hb0 hpl
            rw [kind_eq] at k1
            rw [hwa] at HFB
            clear k0 hwa
            go_wp2_with fail
            go_roundw
            case rel => exact ⟨i + 1, bs ++ partBytes x, 0, i, by go_num, by rw [HBY.out]; exact cat_text _ _ _, rfl, rfl, G.out, HFB.out⟩
            case measure => simp [intOf]; omega
          · have hcv := conv_one (wr.alloc (.cells #[.int .i64 x.what, .int .u64 x.n, .int .i64 x.size, .string x.text] 52)) (UInt8.ofNat x.text.size) ((x.text.size : Int) % 256) (by rw [UInt8.toNat_ofNat']; omega)
            simp only [World.size_alloc] at hcv
            have hb0 : partBad x = 3 := by unfold partBad; rw [if_neg k0, if_pos k1, if_pos (by omega)]
            have hby : partBytes x = UInt8.ofNat x.text.size :: x.text.data.toList := by unfold partBytes; rw [if_neg k0, if_pos k1]
            have G := Lib.hid (BAD.out (bs ++ partBytes x) 3 hb0 (by decide) (by simp only [List.length_append]; omega))
            have HBY := Lib.hid hby; clear hby
            have HFB := Lib.hid (HFA.out.alloc (.cells #[.int .u8 ((x.text.size : Int) % 256)] 5))
            clear hb0 hpl
            rw [kind_eq] at k1
            rw [hwa] at HFB
            clear k0 hwa
            go_wp2_with fail
            go_roundw
            case rel => exact ⟨i + 1, bs ++ partBytes x, 3, i, by go_num, by rw [HBY.out]; exact cat_text _ _ _, rfl, rfl, G.out, HFB.out⟩
            case measure => simp [intOf]; omega
        · have hpl := part_len _ hbk
          by_cases k2 : partKind x = 2
          · have hb0 : partBad x = 0 := by unfold partBad; rw [if_neg k0, if_neg k1, if_pos k2]
            have hby : partBytes x = x.text.data.toList := by unfold partBytes; rw [if_neg k0, if_neg k1]
            have G := Lib.hid (GOOD.out hb0)
            have HBY := Lib.hid hby; clear hby
            clear hb0
            rw [kind_eq] at k2
            rw [hwa] at HFA
            clear k0 k1 hwa
            go_wp2_with fail
            go_roundw
            case rel => exact ⟨i + 1, bs ++ partBytes x, 0, i, by go_num, by rw [HBY.out]; exact cat_str _ _, rfl, rfl, G.out, HFA.out⟩
            case measure => simp [intOf]; omega
          · have k3 : (x.what.tmod 4 + 4) % 4 = 3 := by rw [kind_eq] at k0 k1 k2; omega
            by_cases hs : 0 < x.size ∧ x.size < 17
            · have hb0 : partBad x = x.size := by unfold partBad; rw [if_neg k0, if_neg k1, if_neg k2, if_pos hs]
              have hs1 := hs.1
              have hs2 := hs.2
              have G := Lib.hid (BAD.out bs x.size hb0 (by omega) (by omega))
              rw [hwa] at HFA
              clear k0 k1 k2 hwa hb0
              go_wp2_with fail
              go_roundw
              case rel => exact ⟨i + 1, bs, x.size, i, by go_num, rfl, rfl, rfl, G.out, HFA.out⟩
              case measure => simp [intOf]; omega
            · have hb0 : partBad x = 4 := by unfold partBad; rw [if_neg k0, if_neg k1, if_neg k2, if_neg hs]
              have G := Lib.hid (BAD.out bs 4 hb0 (by decide) (by omega))
              rw [hwa] at HFA
              clear k0 k1 k2 hwa hb0
              by_cases hs1 : 0 < x.size
              · have hs2 : ¬ x.size < 17 := by omega
                clear hs
                go_wp2_with fail
                go_roundw
                case rel => exact ⟨i + 1, bs, 4, i, by go_num, rfl, rfl, rfl, G.out, HFA.out⟩
                case measure => simp [intOf]; omega
              · clear hs
                go_wp2_with fail
                go_roundw
                case rel => exact ⟨i + 1, bs, 4, i, by go_num, rfl, rfl, rfl, G.out, HFA.out⟩
                case measure => simp [intOf]; omega
    · obtain ⟨e1, e2, e3⟩ := HRR.out.ends hgo
      have hbw : Below W.heap.size W wr := Fr.below HB3.out HFR.out (by omega) (fun k h => h.elim)
      have hbs := hbw.size
      have hcall := writes_call W.heap.size al cl l' wr q1 (fun p hp hne => by have := HPA.out p hp hne; omega) (HL.out.below hbw (Nat.le_refl _)) hm1 HF.out HBK.out
      have HC := Lib.hid hcall; clear hcall
      have HBW := Lib.hid hbw; clear hbw
      have E1 := Lib.hid e1; clear e1
      have E2 := Lib.hid e2; clear e2
      have E3 := Lib.hid e3; clear e3
      have hc6 : ∀ w6, Fr (fun _ => False) wr w6 → w6.cell? ⟨W.heap.size, 0, none⟩ = some (.slice al l'.length cl) := fun w6 hf6 => hf6.cell q1 (fun h => h)
      have HC6 := Lib.hid hc6; clear hc6
      by_cases hc : c = 0
      · subst hc
        have hil : ¬ i < l'.length := fun h => hgo ⟨rfl, h⟩
        have hend : (wrOut (writes l')).ending = .returned (.tuple #[.string ⟨bs.toArray⟩, .int .i64 0]) := by
          unfold wrOut; rw [if_pos E1.out, E2.out rfl]; rfl
        have HE := Lib.hid hend; clear hend
        have E4 := Lib.hid (E2.out rfl)
        clear hgo E2
        go_wp2_with fail
        refine HC.out.mono ?_
        rw [HE.out]
        rintro e w6 ⟨rfl, hf6, k6⟩
        have q6 := HC6.out w6 hf6
        have hs6 := hf6.size
        have hbw6 : Below W.heap.size W w6 := Fr.below HBW.out hf6 (by omega) (fun k h => h.elim)
        have hcall2 := reads_call W.heap.size al cl l' w6 q6 (fun p hp hne => by have := HPA.out p hp hne; omega) (HL.out.below hbw6 (Nat.le_refl _)) hm1 HF.out HBK.out E1.out bs E4.out (by omega)
        have HC2 := Lib.hid hcall2; clear hcall2
        have HBW6 := Lib.hid hbw6; clear hbw6
        have HF6 := Lib.hid hf6; clear hf6
        by_cases hne : 0 < l'.length
        · have hd : d = lastPart l' := E3.out (by intro h; rw [h] at hne; exact absurd hne (Nat.lt_irrefl _))
          subst hd
          go_wp2_with fail
          refine HC2.out.mono ?_
          rintro e w7 ⟨rfl, hf7, k7⟩
          have HB7 : Hid (Below W.heap.size W w7) := Fr.below HBW6.out hf7 (by omega) (fun k h => h.elim)
          clear hf7
          go_wp2_with fail
          go_ret
          exact ⟨rfl, HB7.out⟩
        · go_wp2_with fail
          refine HC2.out.mono ?_
          rintro e w7 ⟨rfl, hf7, k7⟩
          have HB7 : Hid (Below W.heap.size W w7) := Fr.below HBW6.out hf7 (by omega) (fun k h => h.elim)
          clear hf7
          go_wp2_with fail
          go_ret
          exact ⟨rfl, HB7.out⟩
      · have hend : (wrOut (writes l')).ending = .returned (.tuple #[.string ⟨#[]⟩, .int .i64 c]) := by
          unfold wrOut; rw [E1.out, if_neg hc]; rfl
        have HE := Lib.hid hend; clear hend
        clear hgo
        by_cases hil : i < l'.length
        all_goals
          go_wp2_with fail
          refine HC.out.mono ?_
          rw [HE.out]
          rintro e w6 ⟨rfl, hf6, k6⟩
          have q6 := HC6.out w6 hf6
          have HB7 : Hid (Below W.heap.size W w6) := Fr.below HBW.out hf6 (by omega) (fun k h => h.elim)
          clear hf6
          by_cases hne : 0 < l'.length
          · have hd : d = lastPart l' := E3.out (by intro h; rw [h] at hne; exact absurd hne (Nat.lt_irrefl _))
            subst hd
            go_wp2_with fail
            go_ret
            exact ⟨rfl, HB7.out⟩
          · go_wp2_with fail
            all_goals
              go_ret
              exact ⟨rfl, HB7.out⟩
end Go.Proofs.Ytoniebocphjmgaa
