/-
  The builder in a block of the type Writer (package pack): its methods, by what they read and write.
-/
import Derived.Test.YtkclgemkeifbaaaGr
import Derived.Lib.Builder
import Derived.Lib.AppendStr
import Derived.Lib.UnsafeStr
import Derived.Laws.Externs
namespace Go.Proofs.Ytkclgemkeifbaaa
open Go.RowKit Go.Proofs

/-- the writer in block b: what its two cells hold, and its bytes; all its memory, and all new memory, lies in S -/
structure WrAt (B : Nat) (S : Nat → Prop) (w : World) (b : Nat) (p v : Value) (bs : List Value) : Prop where
  new : ∀ k, w.heap.size ≤ k → S k
  self : S b
  adr : p = .pointer none ∨ p = .pointer (some ⟨b, 0, none⟩)
  blk : w.heap[b]? = some (.cells #[p, v] 171 (0, 0))
  size : B ≤ w.heap.size
  own : w.ownsRow B 5 1 v bs.length bs
  prot : ∀ k cs fr, B ≤ k → ¬ S k → w.heap[k]? ≠ some (.cells cs 5 fr)
  mem : ∀ q, v.ownBlock = some q → S q

theorem WrAt.ne {B : Nat} {S : Nat → Prop} {w : World} {b : Nat} {p v : Value} {bs : List Value} (h : WrAt B S w b p v bs) : v.ownBlock ≠ some b := Lib.ownBlock_ne h.own h.blk (by decide)

theorem WrAt.lt {B : Nat} {S : Nat → Prop} {w : World} {b : Nat} {p v : Value} {bs : List Value} (h : WrAt B S w b p v bs) : b < w.heap.size := by
  rcases Nat.lt_or_ge b w.heap.size with h' | h'
  · exact h'
  · have := h.blk; simp [Array.getElem?_eq_none h'] at this

theorem WrAt.cell0 {B : Nat} {S : Nat → Prop} {w : World} {b : Nat} {p v : Value} {bs : List Value} (h : WrAt B S w b p v bs) : w.cell? ⟨b, 0, none⟩ = some p := by
  rw [Lib.cell_of_heap h.blk]; rfl
theorem WrAt.cell1 {B : Nat} {S : Nat → Prop} {w : World} {b : Nat} {p v : Value} {bs : List Value} (h : WrAt B S w b p v bs) : w.cell? ⟨b, 1, none⟩ = some v := by
  rw [Lib.cell_of_heap h.blk]; rfl

/-- another world in which its blocks are the same -/
theorem WrAt.keep {B : Nat} {S T : Nat → Prop} {w w' : World} {b : Nat} {p v : Value} {bs : List Value} (h : WrAt B S w b p v bs) (f : Fr T w w') (hT : ∀ k, k < w.heap.size → T k → ¬ S k) (hp : ∀ k, k < w.heap.size → T k → B ≤ k → ∀ cs fr, w'.heap[k]? ≠ some (.cells cs 5 fr)) : WrAt B S w' b p v bs := by
  refine ⟨fun k hk => h.new k (Nat.le_trans f.size hk), h.self, h.adr, ?_, Nat.le_trans h.size f.size, own_fr h.own f ?_, ?_, h.mem⟩
  · rw [f.block b h.lt (fun hT' => hT b h.lt hT' h.self)]; exact h.blk
  · intro q hq hTq
    exact hT q (h.own.lt q hq).2 hTq (h.mem q hq)
  · intro k cs fr hk hS
    by_cases hlt : k < w.heap.size
    · by_cases hTk : T k
      · exact hp k hlt hTk hk cs fr
      · rw [f.block k hlt hTk]; exact h.prot k cs fr hk hS
    · exact absurd (h.new k (by omega)) hS

/-- fewer blocks -/
theorem WrAt.shrink {B : Nat} {S T : Nat → Prop} {w : World} {b : Nat} {p v : Value} {bs : List Value} (h : WrAt B S w b p v bs) (hn : ∀ k, w.heap.size ≤ k → T k) (hb : T b) (hv : ∀ q, v.ownBlock = some q → T q)
    (hp : ∀ k, B ≤ k → S k → ¬ T k → ∀ cs fr, w.heap[k]? ≠ some (.cells cs 5 fr)) : WrAt B T w b p v bs :=
  ⟨hn, hb, h.adr, h.blk, h.size, h.own, fun k cs fr hk hT => by
    by_cases hS : S k
    · exact hp k hk hS hT cs fr
    · exact h.prot k cs fr hk hS, hv⟩

theorem WrAt.drew {B : Nat} {S : Nat → Prop} {w : World} {b : Nat} {p v : Value} {bs : List Value} (h : WrAt B S w b p v bs) : WrAt B S w.drew b p v bs := ⟨h.new, h.self, h.adr, h.blk, h.size, h.own.drew, h.prot, h.mem⟩

theorem Try.infou8 : (Try.prog.info? 5).map (fun i => (i.zero, i.size, i.bytes)) = some (some (.int .u8 0), 1, 1) := by kernel_rfl
theorem Try.infoBuilder : (Try.prog.info? 169).map (·.size) = some 2 := by kernel_rfl
theorem Try.liesBuilder : liesAt Try.prog Try.prog.depth 171 (2 / Try.prog.cellsOf 171) 0 169 1 = true := by kernel_rfl
theorem Try.cellsu8 : Try.prog.cellsOf 5 = 1 := by kernel_rfl

set_option maxHeartbeats 1000000 in
set_option maxRecDepth 100000 in
theorem copyCheck_used (b : Nat) (w : World) (h0 : w.cell? ⟨b, 0, none⟩ = some (.pointer (some ⟨b, 0, none⟩))) :
    Calls Try.prog 119 #[.pointer (some ⟨b, 0, none⟩)] w fun e w' => e = .returned (.tuple #[]) ∧ w' = w := by
  obtain ⟨j, hj, _⟩ := Option.map_eq_some_iff.1 Try.infoBuilder
  go_enter Try.func119, Try.ntmps119
  go_wp2
  rw [Lib.run_neq_ptr_same w _ Try.underlying167 hj]
  go_wp2
  go_end0
  exact ⟨rfl, rfl⟩

set_option maxHeartbeats 1000000 in
set_option maxRecDepth 100000 in
theorem copyCheck_fresh (b : Nat) (w : World) (h0 : w.cell? ⟨b, 0, none⟩ = some (.pointer none)) (hsh : w.shape? b = some (171, 2)) (hfz : w.frozen? ⟨b, 0, none⟩ = false) :
    Calls Try.prog 119 #[.pointer (some ⟨b, 0, none⟩)] w fun e w' => e = .returned (.tuple #[]) ∧ w' = w.setCell ⟨b, 0, none⟩ (.pointer (some ⟨b, 0, none⟩)) := by
  obtain ⟨j, hj, hjs⟩ := Option.map_eq_some_iff.1 Try.infoBuilder
  go_enter Try.func119, Try.ntmps119
  go_wp2
  rw [Lib.run_to_unsafe w ⟨b, 0, none⟩ Try.underlying167 Try.underlying209 hj (by rw [hjs]; decide) hsh (Nat.zero_lt_succ 1)]
  simp only [Result.andThen]
  rw [Oper.upon_value]
  go_wp2
  rw [run_callFunc_extern Try.func126 (by kernel_rfl) (by kernel_rfl) (by kernel_rfl) (e := Extern.AbiNoEscape.same) (by kernel_rfl)]
  rw [Lib.run_noEscape]
  simp only [Result.andThen]
  rw [Oper.upon_value]
  go_wp2
  rw [Lib.run_from_unsafe w ⟨b, 0, none⟩ Try.underlying209 Try.underlying167 hj hsh Try.liesBuilder]
  simp only [Result.andThen]
  rw [Oper.upon_value]
  go_wp2
  go_end0
  exact ⟨rfl, rfl⟩

theorem WrAt.used {B : Nat} {S : Nat → Prop} {w : World} {b : Nat} {p v : Value} {bs : List Value} (h : WrAt B S w b p v bs) :
    WrAt B S (w.setCell ⟨b, 0, none⟩ (.pointer (some ⟨b, 0, none⟩))) b (.pointer (some ⟨b, 0, none⟩)) v bs := by
  have hf : Fr (fun k => k = b) w (w.setCell ⟨b, 0, none⟩ (.pointer (some ⟨b, 0, none⟩))) := (Fr.refl (fun k => k = b) w).setCell (p := ⟨b, 0, none⟩) (.inl rfl) _
  refine ⟨fun k hk => h.new k (by simpa [World.setCell] using hk), h.self, .inr rfl, ?_, by simpa [World.setCell] using h.size, ?_, ?_, h.mem⟩
  · simp [World.setCell, Array.getElem?_modify, h.blk]
  · exact own_fr h.own hf (fun q hq hqb => h.ne (by rw [hq, hqb]))
  · intro k cs fr hk hS
    have hkb : k ≠ b := fun e => hS (e ▸ h.self)
    by_cases hlt : k < w.heap.size
    · rw [hf.block k hlt hkb]; exact h.prot k cs fr hk hS
    · exact absurd (h.new k (by omega)) hS

/-- a buffer grown behind, laid into the second cell -/
theorem WrAt.put {B : Nat} {S : Nat → Prop} {w : World} {b : Nat} {p v v' : Value} {bs bs' : List Value} (h : WrAt B S w b p v bs) (w' : World)
    (f : Fr (fun k => v.ownBlock = some k) w w') (hown : w'.ownsRow B 5 1 v' bs'.length bs') :
    WrAt B S (w'.setCell ⟨b, 1, none⟩ v') b p v' bs' ∧ Fr S w (w'.setCell ⟨b, 1, none⟩ v') := by
  have hb := h.lt
  have hblk : w'.heap[b]? = some (.cells #[p, v] 171 (0, 0)) := by rw [f.block b hb h.ne]; exact h.blk
  have hne : v'.ownBlock ≠ some b := Lib.ownBlock_ne hown hblk (by decide)
  have hf1 : Fr (fun k => k = b) w' (w'.setCell ⟨b, 1, none⟩ v') := (Fr.refl (fun k => k = b) w').setCell (p := ⟨b, 1, none⟩) (.inl rfl) _
  have hf2 : Fr S w (w'.setCell ⟨b, 1, none⟩ v') := (f.mono (fun k _ hk => h.mem k hk)).setCell (p := ⟨b, 1, none⟩) (.inl h.self) _
  have hpr : ∀ k cs fr, B ≤ k → ¬ S k → w'.heap[k]? ≠ some (.cells cs 5 fr) := by
    intro k cs fr hk hS
    by_cases hlt : k < w.heap.size
    · rw [f.block k hlt (fun hv => hS (h.mem k hv))]; exact h.prot k cs fr hk hS
    · exact absurd (h.new k (by omega)) hS
  refine ⟨⟨fun k hk => h.new k (Nat.le_trans hf2.size hk), h.self, h.adr, ?_, Nat.le_trans h.size hf2.size, ?_, ?_, ?_⟩, hf2⟩
  · simp [World.setCell, Array.getElem?_modify, hblk]
  · exact own_fr hown hf1 (fun q hq hqb => hne (by rw [hq, hqb]))
  · intro k cs fr hk hS
    have hkb : k ≠ b := fun e => hS (e ▸ h.self)
    by_cases hlt : k < w'.heap.size
    · rw [hf1.block k hlt hkb]; exact hpr k cs fr hk hS
    · exact absurd (h.new k (by have := f.size; omega)) hS
  · intro q hq
    have hB := (hown.lt q hq).1
    apply Classical.byContradiction
    intro hS
    rcases hown.2 with ⟨hv, _⟩ | ⟨g, cap, cur, hv, _, hg, _⟩
    · rw [hv] at hq; cases hq
    · rw [hv] at hq
      simp only [Value.ownBlock, Option.some.injEq] at hq
      subst hq
      exact hpr g _ _ hB hS hg

theorem copyCheck_any (B : Nat) (S : Nat → Prop) (w : World) (b : Nat) (p v : Value) (bs : List Value) (h : WrAt B S w b p v bs) :
    Calls Try.prog 119 #[.pointer (some ⟨b, 0, none⟩)] w fun e w' => e = .returned (.tuple #[]) ∧ WrAt B S w' b (.pointer (some ⟨b, 0, none⟩)) v bs ∧ Fr S w w' := by
  rcases h.adr with rfl | rfl
  · refine (copyCheck_fresh b w h.cell0 (by simp [World.shape?, h.blk]) (Lib.frozen_of_heap h.blk 0)).mono ?_
    rintro e w' ⟨rfl, rfl⟩
    exact ⟨rfl, h.used, (Fr.refl S w).setCell (p := ⟨b, 0, none⟩) (.inl h.self) _⟩
  · refine (copyCheck_used b w h.cell0).mono ?_
    rintro e w' ⟨rfl, rfl⟩
    exact ⟨rfl, h, Fr.refl S _⟩

set_option maxHeartbeats 2000000 in
set_option maxRecDepth 100000 in
theorem writeByte_any (B : Nat) (S : Nat → Prop) (w : World) (b : Nat) (p v : Value) (bs : List Value) (c : Int) (h : WrAt B S w b p v bs) (hlen : bs.length + 1 ≤ 140737488355328) :
    Calls Try.prog 96 #[.pointer (some ⟨b, 0, none⟩), .int .u8 c] w fun e w' => e = .returned .nilIface ∧ (∃ v', WrAt B S w' b (.pointer (some ⟨b, 0, none⟩)) v' (bs ++ [.int .u8 c])) ∧ Fr S w w' := by
  obtain ⟨i0, hi, hz0, hz1, hz2⟩ := info_parts Try.infou8
  have H := Lib.hid h; clear h
  go_enter Try.func96, Try.ntmps96
  go_wp2_with fail
  refine (copyCheck_any B S w b p v bs H.out).mono ?_
  rintro e w1 ⟨rfl, h1, hf1⟩
  have c1 := h1.cell1
  have hs1 := h1.size
  have H1 := Lib.hid h1; clear h1
  go_wp2_with (at_builtin; refine wpList_append_own _ rfl _ _ 47 rfl B 5 i0 (.int .u8 0) 1 1 Try.underlying47 hi hz0 hz1 hz2 rfl (by decide) _ _ _ rfl (H1.out.own.alloc _) ⟨w1.heap.size, 0, none⟩ 1 1 [.int .u8 c] rfl rfl (news_one _ _ _) (one_one _ rfl) (by unfold maxLen; omega) (by omega) (by simp; omega) ?_)
  intro v' w2 hown' hgrow _
  obtain ⟨a', cap', rfl, _, _, _⟩ := SlA.of_own hown'
  have hfg : Fr (fun k => v.ownBlock = some k) w1 w2 := ((Fr.refl (fun k => v.ownBlock = some k) w1).alloc _).grown hgrow (by intro q hq; exact .inl hq)
  have hput := H1.out.put w2 hfg (bs' := bs ++ [.int .u8 c]) (by simpa using hown')
  have hfz : w2.frozen? ⟨b, 1, none⟩ = false := by
    have hblk : w2.heap[b]? = some (.cells #[.pointer (some ⟨b, 0, none⟩), v] 171 (0, 0)) := by rw [hfg.block b H1.out.lt H1.out.ne]; exact H1.out.blk
    exact Lib.frozen_of_heap hblk 1
  have hcl : w2.cell? ⟨b, 1, none⟩ = some v := hfg.cell c1 H1.out.ne
  have HP := Lib.hid hput; clear hput hown' hgrow hfg
  go_wp2_with fail
  go_ret
  exact ⟨rfl, ⟨_, HP.out.1⟩, hf1.trans HP.out.2 (fun k hk => .inl hk)⟩

set_option maxHeartbeats 2000000 in
set_option maxRecDepth 100000 in
theorem writeString_any (B : Nat) (S : Nat → Prop) (w : World) (b : Nat) (p v : Value) (bs : List Value) (s : ByteArray) (h : WrAt B S w b p v bs) (hlen : bs.length + s.size ≤ 140737488355328) :
    Calls Try.prog 97 #[.pointer (some ⟨b, 0, none⟩), .string s] w fun e w' => e = .returned (.tuple #[.int .i64 s.size, .nilIface]) ∧ (∃ v', WrAt B S w' b (.pointer (some ⟨b, 0, none⟩)) v' (bs ++ Lib.strCells s)) ∧ Fr S w w' := by
  obtain ⟨i0, hi, hz0, hz1, hz2⟩ := info_parts Try.infou8
  have H := Lib.hid h; clear h
  go_enter Try.func97, Try.ntmps97
  go_wp2_with fail
  refine (copyCheck_any B S w b p v bs H.out).mono ?_
  rintro e w1 ⟨rfl, h1, hf1⟩
  have c1 := h1.cell1
  have hs1 := h1.size
  have H1 := Lib.hid h1; clear h1
  go_wp2_with (at_builtin; refine Lib.wpList_append_own_string _ rfl _ _ 47 9 rfl B 5 i0 Try.underlying47 Try.underlying9 hi hz0 hz1 hz2 _ _ _ rfl H1.out.own s rfl (by unfold maxLen; omega) (by omega) (by omega) ?_)
  intro v' w2 hown' hgrow _
  obtain ⟨a', cap', rfl, _, _, _⟩ := SlA.of_own hown'
  have hfg : Fr (fun k => v.ownBlock = some k) w1 w2 := (Fr.refl (fun k => v.ownBlock = some k) w1).grown hgrow (by intro q hq; exact .inl hq)
  have hput := H1.out.put w2 hfg (bs' := bs ++ Lib.strCells s) (by simpa [Lib.strCells_length] using hown')
  have hfz : w2.frozen? ⟨b, 1, none⟩ = false := by
    have hblk : w2.heap[b]? = some (.cells #[.pointer (some ⟨b, 0, none⟩), v] 171 (0, 0)) := by rw [hfg.block b H1.out.lt H1.out.ne]; exact H1.out.blk
    exact Lib.frozen_of_heap hblk 1
  have hcl : w2.cell? ⟨b, 1, none⟩ = some v := hfg.cell c1 H1.out.ne
  have HP := Lib.hid hput; clear hput hown' hgrow hfg
  go_wp2_with fail
  go_ret2
  exact ⟨rfl, ⟨_, HP.out.1⟩, hf1.trans HP.out.2 (fun k hk => .inl hk)⟩

theorem Fr.freeze {S : Nat → Prop} {a w : World} (h : Fr S a w) {p : Addr} (hp : S p.block) (n : Nat) : Fr S a (w.freeze p n) := by
  have h1 : Fr (fun k => k = p.block) w (w.freeze p n) := by
    unfold World.freeze
    split
    · exact Fr.refl _ w
    · refine ⟨rfl, rfl, rfl, by simp, fun k hk hn => ?_⟩
      simp only [Array.getElem?_modify]
      rw [if_neg (fun e => hn e.symm)]
  exact h.trans h1 (fun k hk => .inl (hk ▸ hp))

set_option maxHeartbeats 2000000 in
set_option maxRecDepth 100000 in
theorem string_some (B : Nat) (S : Nat → Prop) (w : World) (b : Nat) (p v : Value) (l : List UInt8) (h : WrAt B S w b p v (Lib.byteCells l)) (h0 : l ≠ []) :
    Calls Try.prog 86 #[.pointer (some ⟨b, 0, none⟩)] w fun e w' => e = .returned (.string ⟨l.toArray⟩) ∧ Fr S w w' := by
  have hl0 : l.length ≠ 0 := by simpa using h0
  have hown := h.own
  have hm := h.mem
  have hblk := h.blk
  rw [Lib.byteCells_length] at hown
  obtain ⟨g, cap, cur, rfl, hg, hnc, hcm, hcs, htake⟩ : ∃ g cap cur, v = .slice (some ⟨g, 0, none⟩) l.length cap ∧ w.heap[g]? = some (.cells cur 5 (0, 0)) ∧ l.length ≤ cap ∧ cap ≤ maxLen ∧ cur.size = cap * 1 ∧ cur.toList.take (l.length * 1) = Lib.byteCells l := by
    rcases hown.2 with ⟨_, hz⟩ | ⟨g, cap, cur, hv, _, r⟩
    · exact absurd hz hl0
    · exact ⟨g, cap, cur, hv, r⟩
  have c1 : w.drew.cell? ⟨b, 1, none⟩ = some (.slice (some ⟨g, 0, none⟩) l.length cap) := h.cell1
  have hSD : (Builtin.unsafeSliceData_ #[47] 203 #[.slice (some ⟨g, 0, none⟩) l.length cap]).run Try.prog w.drew = .ok (.pointer (some ⟨g, 0, none⟩)) w.drew :=
    Lib.run_unsafeSliceData_row _ _ _ _ _ _ (by omega)
  have hUS : (Builtin.unsafeString_ #[203, 3] 9 #[.pointer (some ⟨g, 0, none⟩), .int .i64 l.length]).run Try.prog w.drew = .ok (.string ⟨l.toArray⟩) (w.drew.freeze ⟨g, 0, none⟩ l.length) := by
    refine Lib.run_unsafeString_row w.drew 203 3 9 5 Try.underlying203 Try.cellsu8 g cur.size (by have hg' : w.drew.heap[g]? = some (.cells cur 5 (0, 0)) := hg; simp [World.shape?, hg']) l h0 (by omega) (by unfold maxLen at hcm; omega) ?_
    intro j x hx
    have := hown.cells (g := g) rfl j (.int .u8 x.toNat) (by simp [Lib.byteCells, hx])
    exact this
  have hgS : S g := hm g rfl
  clear hown hm hblk h hg hnc hcm hcs htake h0
  go_enter Try.func86, Try.ntmps86
  go_wp2
  go_region
  all_goals (go_wp2; go_ret; exact ⟨rfl, ((Fr.refl S w).drew).freeze (p := ⟨g, 0, none⟩) hgS _⟩)

set_option maxHeartbeats 2000000 in
set_option maxRecDepth 100000 in
theorem string_nil (S : Nat → Prop) (w : World) (b : Nat) (hc1 : w.cell? ⟨b, 1, none⟩ = some (.slice none 0 0)) :
    Calls Try.prog 86 #[.pointer (some ⟨b, 0, none⟩)] w fun e w' => e = .returned (.string ⟨#[]⟩) ∧ Fr S w w' := by
  have hUS := fun W q => Lib.run_unsafeString_none (P := Try.prog) W 203 3 9 q
  have c1 : w.drew.cell? ⟨b, 1, none⟩ = some (.slice none 0 0) := hc1
  have hSD : (Builtin.unsafeSliceData_ #[47] 203 #[.slice none 0 0]).run Try.prog w.drew = .ok (.pointer none) w.drew := rfl
  clear hc1
  go_enter Try.func86, Try.ntmps86
  go_wp2
  go_region
  all_goals (go_wp2; go_ret; exact ⟨rfl, (Fr.refl S w).drew⟩)

set_option maxHeartbeats 2000000 in
set_option maxRecDepth 100000 in
theorem string_room (S : Nat → Prop) (w : World) (b g cap : Nat) (hc0 : cap ≠ 0) (hc1 : w.cell? ⟨b, 1, none⟩ = some (.slice (some ⟨g, 0, none⟩) 0 cap)) :
    Calls Try.prog 86 #[.pointer (some ⟨b, 0, none⟩)] w fun e w' => e = .returned (.string ⟨#[]⟩) ∧ Fr S w w' := by
  have hUS := fun W q => Lib.run_unsafeString_none (P := Try.prog) W 203 3 9 q
  have c1 : w.drew.cell? ⟨b, 1, none⟩ = some (.slice (some ⟨g, 0, none⟩) 0 cap) := hc1
  have hSD : (Builtin.unsafeSliceData_ #[47] 203 #[.slice (some ⟨g, 0, none⟩) 0 cap]).run Try.prog w.drew = .ok (.pointer (some ⟨g, 0, none⟩)) w.drew :=
    Lib.run_unsafeSliceData_row _ _ _ _ _ _ hc0
  clear hc0 hc1
  go_enter Try.func86, Try.ntmps86
  go_wp2
  go_region
  all_goals (go_wp2; go_ret; exact ⟨rfl, (Fr.refl S w).drew⟩)

set_option maxHeartbeats 2000000 in
set_option maxRecDepth 100000 in
theorem string_noroom (S : Nat → Prop) (w : World) (b g : Nat) (cur : Array Value) (hc1 : w.cell? ⟨b, 1, none⟩ = some (.slice (some ⟨g, 0, none⟩) 0 0)) (hg : w.heap[g]? = some (.cells cur 5 (0, 0))) :
    Calls Try.prog 86 #[.pointer (some ⟨b, 0, none⟩)] w fun e w' => e = .returned (.string ⟨#[]⟩) ∧ Fr S w w' := by
  have hUS := fun W q => Lib.run_unsafeString_none (P := Try.prog) W 203 3 9 q
  have c1 : w.drew.cell? ⟨b, 1, none⟩ = some (.slice (some ⟨g, 0, none⟩) 0 0) := hc1
  have hSD : (Builtin.unsafeSliceData_ #[47] 203 #[.slice (some ⟨g, 0, none⟩) 0 0]).run Try.prog w.drew = .ok (.pointer (some ⟨w.drew.heap.size, 0, none⟩)) (w.drew.alloc (.view ⟨g, 0, none⟩ 5)) :=
    Lib.run_unsafeSliceData_zero w.drew _ _ 5 Try.underlying203 ⟨g, 0, none⟩ 0 (5, cur.size) (by have hg' : w.drew.heap[g]? = some (.cells cur 5 (0, 0)) := hg; simp [World.shape?, hg'])
  have c2 : (w.drew.alloc (.view ⟨g, 0, none⟩ 5)).cell? ⟨b, 1, none⟩ = some (.slice (some ⟨g, 0, none⟩) 0 0) :=
    ((Fr.refl (fun _ => False) w.drew).alloc (.view ⟨g, 0, none⟩ 5)).cell c1 (fun h => h)
  have c3 : (w.alloc (.view ⟨g, 0, none⟩ 5)).drew.cell? ⟨b, 1, none⟩ = some (.slice (some ⟨g, 0, none⟩) 0 0) := c2
  go_enter Try.func86, Try.ntmps86
  go_wp2
  go_region
  all_goals (go_wp2; go_ret; exact ⟨rfl, ((Fr.refl S w).drew).alloc _⟩)

/-- (*strings.Builder).String at a writer -/
theorem string_any (B : Nat) (S : Nat → Prop) (w : World) (b : Nat) (p v : Value) (l : List UInt8) (h : WrAt B S w b p v (Lib.byteCells l)) :
    Calls Try.prog 86 #[.pointer (some ⟨b, 0, none⟩)] w fun e w' => e = .returned (.string ⟨l.toArray⟩) ∧ Fr S w w' := by
  by_cases h0 : l = []
  · subst h0
    have c1 := h.cell1
    rcases h.own.2 with ⟨rfl, _⟩ | ⟨g, cap, cur, rfl, _, hg, _⟩
    · exact string_nil S w b c1
    · by_cases hc0 : cap = 0
      · subst hc0
        exact string_noroom S w b g cur c1 hg
      · exact string_room S w b g cap hc0 c1
  · exact string_some B S w b p v l h h0

end Go.Proofs.Ytkclgemkeifbaaa
