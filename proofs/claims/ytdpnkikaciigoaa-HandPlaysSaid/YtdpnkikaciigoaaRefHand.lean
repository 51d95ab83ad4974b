/-
  The document's hand: its functions (printed by gen_rhand.py).
-/
import Derived.Test.YtdpnkikaciigoaaStaApp
import Derived.Test.YtdpnkikaciigoaaRefHandSpec
namespace Go.Proofs.Ytdpnkikaciigoaa
open Go.RowKit Go.Proofs

/-- where the document's hand's rows lie -/
structure RhP where
  y : VwP
  da : Option Addr
  dc : Nat
  ka : Option Addr
  kc : Nat
abbrev Rh.arr (h : Rh) (ds : List Int) (x : RhP) : Array Value := #[.int .i64 h.u.self, .slice x.y.aa h.u.act.length x.y.ac, .slice x.y.pa h.u.pas.length x.y.pc, .int .i64 h.u.am, .int .i64 h.u.pm, .slice x.da ds.length x.dc, .slice x.ka h.asked.length x.kc]
abbrev rhrows (h : Rh) (ds : List Int) (x : RhP) (R : List Rw) : List Rw := rrows h.u x.y ds x.da x.dc (⟨x.ka, h.asked.length, x.kc, ints h.asked⟩ :: R)
abbrev rhZ : Array Value := #[.int .i64 0, .slice none 0 0, .slice none 0 0, .int .i64 0, .int .i64 0, .slice none 0 0, .slice none 0 0]
theorem Try.zeroRefHand : (Try.prog.info? 137).map (fun i => (i.zero, i.size)) = some (some (.agg rhZ), 7) := by kernel_rfl
theorem Try.infoRefHand : (Try.prog.info? 137).map (·.size) = some 7 := by kernel_rfl
abbrev roZ : Array Value := #[.int .i64 0, .int .i64 0, .bool false]
theorem Try.infoRefOutB : (Try.prog.info? 146).map (fun i => (i.zero, i.size, i.bytes)) = some (some (.agg roZ), 3, 24) := by kernel_rfl
def Ho.rcells (x : Ho) : List Value := [.int .i64 x.who, .int .i64 x.kind, .bool x.high]
abbrev routs (l : List Ho) : List Value := l.flatMap Ho.rcells
theorem routs_snoc (l : List Ho) (x : Ho) : routs l ++ Ho.rcells x = routs (l ++ [x]) := by simp [routs]
structure RhOk (h : Rh) (ds : List Int) : Prop where
  act : h.u.act.length ≤ 64
  pas : h.u.pas.length ≤ 64
  pm : 0 ≤ h.u.pm
  asked : h.asked.length ≤ 64
  dr : ∀ x ∈ ds, 0 ≤ x ∧ x < 4294967296
def REnd (W : World) (O : Nat → Prop) (p : Value) (D : List Int) (h' : Rh) (ds' : List Int) (o : List Ho) (r : Array Value → Value → Value) (e : Ending) (w' : World) : Prop :=
  ∃ x' ov, e = .returned (r (h'.arr ds' x') ov) ∧ Sta W O p D [] [⟨146, 3, ov, o.length, routs o⟩] (rhrows h' ds' x' []) w'
def REnd0 (W : World) (O : Nat → Prop) (p : Value) (D : List Int) (h' : Rh) (ds' : List Int) (r : Array Value → Value) (e : Ending) (w' : World) : Prop :=
  ∃ x', e = .returned (r (h'.arr ds' x')) ∧ Sta W O p D [] [] (rhrows h' ds' x' []) w'
theorem rKnow_len (u : Vw) (n : Int) (ds : List Int) : (rKnow u n ds).1.act = u.act ∧ (rKnow u n ds).1.pas.length ≤ u.pas.length + 1 ∧ (rKnow u n ds).1.pm = u.pm ∧ (ds = [] → (rKnow u n ds).2 = []) := by
  unfold rKnow
  split
  · exact ⟨rfl, Nat.le_succ _, rfl, fun h => h⟩
  · split
    · refine ⟨rfl, ?_, rfl, ?_⟩
      · simp only [List.length_append, List.length_cons, List.length_nil]
        have := rDrop_len u.pas (oneV ds (srt u.pas)).1
        omega
      · rintro rfl
        simp only [oneV]
        split
        · rfl
        · unfold bel
          simp
    · exact ⟨rfl, by simp, rfl, fun h => h⟩
theorem rLeave_len (u : Vw) (n : Int) (k : Bool) (ds : List Int) : (rLeave u n k ds).1.act.length ≤ u.act.length ∧ (rLeave u n k ds).1.pas.length ≤ u.pas.length + 1 ∧ (rLeave u n k ds).1.pm = u.pm ∧ (ds = [] → (rLeave u n k ds).2.2 = []) := by
  unfold rLeave
  split
  · split
    · obtain ⟨a, b, c, d⟩ := rKnow_len { u with act := rDrop u.act n } n ds
      refine ⟨?_, b, c, d⟩
      simp only
      rw [a]
      exact rDrop_len _ _
    · exact ⟨rDrop_len _ _, Nat.le_succ _, rfl, fun h => h⟩
  · exact ⟨Nat.le_refl _, Nat.le_succ _, rfl, fun h => h⟩
theorem rEvict_len (u : Vw) (ds : List Int) : (rEvict u ds).1.act.length ≤ u.act.length ∧ (rEvict u ds).1.pas.length ≤ u.pas.length + 1 ∧ (rEvict u ds).1.pm = u.pm ∧ (ds = [] → (rEvict u ds).2.2.2 = []) := by
  unfold rEvict
  split
  · exact ⟨Nat.le_refl _, Nat.le_succ _, rfl, fun h => h⟩
  · obtain ⟨a, b, c, d⟩ := rLeave_len u (oneV ds (srt u.act)).1 true (oneV ds (srt u.act)).2.2
    refine ⟨a, b, c, ?_⟩
    rintro rfl
    refine d ?_
    simp only [oneV]
    split
    · rfl
    · unfold bel
      simp
theorem exec_bldRO (ρ : Operand → Value) (w : World) (dst : Option Tmp) (ty : TypeId) (pos : String) (after : Array Edge) {x0 x1 x2 : Operand} {i0 i1 : Int} {b : Bool} (h0 : ρ x0 = .int .i64 i0) (h1 : ρ x1 = .int .i64 i1) (h2 : ρ x2 = .bool b) :
    (execOp ρ ⟨dst, .build 146 #[(0, x0), (1, x1), (2, x2)], ty, pos, after, none⟩).run Try.prog w = .ok (.value (.agg #[.int .i64 i0, .int .i64 i1, .bool b])) w := by simp [go_sem, h0, h1, h2]
theorem wpList_bldRO {ops : Array Oper} {rest : List Oper} {dst : Option Tmp} {ty : TypeId} {pos : String} {after : Array Edge} {A : Act} {w : World} {Q : Exit → Act → World → Prop} {x0 x1 x2 : Operand} {i0 i1 : Int} {b : Bool} (h0 : A.eval x0 = .int .i64 i0) (h1 : A.eval x1 = .int .i64 i1) (h2 : A.eval x2 = .bool b)
    (h : wpList Try.prog ops Q rest (A.put dst (.agg #[.int .i64 i0, .int .i64 i1, .bool b])) w) :
    wpList Try.prog ops Q (⟨dst, .build 146 #[(0, x0), (1, x1), (2, x2)], ty, pos, after, none⟩ :: rest) A w := by
  refine wpList_plain rfl fun K hK => ?_
  unfold Oper.wp
  rw [exec_bldRO A.eval w dst ty pos after h0 h1 h2]
  exact hK _ _ h
theorem exec_bldROs (ρ : Operand → Value) (w : World) (dst : Option Tmp) (ty : TypeId) (pos : String) (after : Array Edge) {x0 : Operand} {c0 c1 c2 : Value} (h0 : ρ x0 = .agg #[c0, c1, c2]) :
    (execOp ρ ⟨dst, .buildSlice 140 1 #[(0, x0)], ty, pos, after, none⟩).run Try.prog w = .ok (.value (.slice (some ⟨w.heap.size, 0, none⟩) 1 1)) (w.alloc (.cells #[c0, c1, c2] 146)) := by
  simp [go_sem, h0]
theorem wpList_bldROs {ops : Array Oper} {rest : List Oper} {dst : Option Tmp} {ty : TypeId} {pos : String} {after : Array Edge} {A : Act} {w : World} {Q : Exit → Act → World → Prop} {x0 : Operand} {c0 c1 c2 : Value} (h0 : A.eval x0 = .agg #[c0, c1, c2])
    (h : wpList Try.prog ops Q rest (A.put dst (.slice (some ⟨w.heap.size, 0, none⟩) 1 1)) (w.alloc (.cells #[c0, c1, c2] 146))) :
    wpList Try.prog ops Q (⟨dst, .buildSlice 140 1 #[(0, x0)], ty, pos, after, none⟩ :: rest) A w := by
  refine wpList_plain rfl fun K hK => ?_
  unfold Oper.wp
  rw [exec_bldROs A.eval w dst ty pos after h0]
  exact hK _ _ h

set_option maxHeartbeats 4000000 in
set_option maxRecDepth 100000 in
theorem refDrop11_any (a : Option Addr) (cap : Nat) (l : List Int) (n : Int) (w : World) (h : SlA w a l.length cap (ints l)) (hl : l.length ≤ 100) :
    Calls Try.prog 97 #[.slice a l.length cap, .int .i64 n] w (RowNew (rDrop l n) w) := by
  obtain ⟨i0, hi, hz0, hz1, hz2⟩ := info_parts Try.infoint
  have e1 := h.le
  have e2 := h.max
  have HM := Lib.hid h
  have hrd : rDrop l n = kept (fun x => !(x != n)) l := by unfold rDrop kept; congr 1; funext x; simp
  obtain ⟨R, hR⟩ : ∃ R, R = kept (fun x => !(x != n)) l := ⟨_, rfl⟩
  have HR := Lib.hid hR
  rw [hrd, ← hR]
  clear h hrd hR
  go_enter Try.func97, Try.ntmps97
  go_wp2_with fail
  go_loopw [5, 6] (fun rv kv wr => ∃ k : Nat, kv = .int .i64 k ∧ k ≤ l.length ∧ wr.ownsRow w.heap.size 3 1 rv (kept (fun x => !(x != n)) (l.take k)).length (ints (kept (fun x => !(x != n)) (l.take k))) ∧ Gr w wr) (fun _ kv _ => l.length - (intOf kv).toNat)
  case atStart => exact ⟨0, rfl, Nat.zero_le _, World.ownsRow_nil _ _ _ _, Fr.refl _ _⟩
  case round =>
    obtain ⟨k, rfl, hk, hO, hfr⟩ := hrel
    by_cases hkl : k < l.length
    · have hks := kept_snoc (fun x => !(x != n)) l k hkl
      obtain ⟨bm, om, rfl, hcm⟩ := (HM.out.keep hfr (fun _ _ h => h)).int k hkl
      have hRl : (kept (fun x => !(x != n)) (l.take k)).length ≤ 100 := Nat.le_trans (List.length_filter_le _ _) (by simp; omega)
      have HO := Lib.hid hO; clear hO
      have HFR := Lib.hid hfr; clear hfr
      have hsz := HFR.out.size
      by_cases he : l[k] = n
      · have hne : (l[k] != n) = false := by simpa using he
        have HKS : Hid (kept (fun x => !(x != n)) (l.take (k + 1)) = kept (fun x => !(x != n)) (l.take k)) := Lib.hid (by rw [hks, if_pos (by simp [he])])
        clear hks he
        go_wp2_with fail
        go_roundw
        case rel => exact ⟨k + 1, by go_num, by omega, by rw [HKS.out]; exact HO.out, HFR.out⟩
        case measure => simp [intOf]; omega
      · have hne : (l[k] != n) = true := by simpa using he
        have HKS : Hid (kept (fun x => !(x != n)) (l.take (k + 1)) = kept (fun x => !(x != n)) (l.take k) ++ [l[k]]) := Lib.hid (by rw [hks, if_neg (by simp [he])])
        clear hks he
        generalize kept (fun x => !(x != n)) (l.take k) = T at *
        generalize l[k] = z at *
        go_wp2_with (at_builtin; refine wpList_append_own _ rfl _ _ 22 rfl w.heap.size 3 i0 (.int .i64 0) 1 8 Try.underlying22 hi hz0 hz1 hz2 rfl (by decide) _ _ _ rfl (HO.out.alloc _) ⟨wr.heap.size, 0, none⟩ 1 1 [.int .i64 z] rfl rfl (news_one _ _ _) (one_one _ rfl) (by unfold maxLen; omega) (by omega) (by rw [World.size_alloc]; omega) ?_)
        intro v1 w8 hown1 hgrow1 _
        have hf8 : Gr w w8 := (HFR.out.alloc _).grown hgrow1 (fun q hq => .inr ((HO.out.lt q hq).1))
        have HO1 := Lib.hid hown1
        have HF8 := Lib.hid hf8
        clear hown1 hgrow1 hf8
        go_wp2_with fail
        go_roundw
        case rel => exact ⟨k + 1, by go_num, by omega, by rw [HKS.out]; simpa using HO1.out, HF8.out⟩
        case measure => simp [intOf]; omega
    · have hkM : kept (fun x => !(x != n)) (l.take k) = R := by rw [HR.out, List.take_of_length_le (by omega)]
      rw [hkM] at hO
      clear hkM HR
      obtain ⟨ra, rc, rfl, hsR, hnew, -⟩ := SlA.of_own hO
      have HSR := Lib.hid hsR
      have HN := Lib.hid hnew
      have FX := Lib.hid hfr
      clear hO hfr hk hsR hnew
      go_wp2_with fail
      go_ret
      exact ⟨_, _, rfl, HSR.out, fun q hq => (HN.out q hq).1, FX.out⟩

set_option maxHeartbeats 4000000 in
set_option maxRecDepth 100000 in
theorem refOnBye11_any (h : Rh) (ds : List Int) (x : RhP) (n : Int) (p : Value) (D : List Int) (O : Nat → Prop) (W : World) (hs : Sta W O p D [] [] (rhrows h ds x []) W) (hk : RhOk h ds) :
    Calls Try.prog 66 #[.agg (h.arr ds x), .int .i64 n] W (REnd0 W O p D (rhOnBye h n ds).1 (rhOnBye h n ds).2 (fun a => .agg a)) := by
  unfold rhOnBye
  simp only
  have HK := Lib.hid hk
  have CL := Lib.hid (fun w (h1 : RwAt w h.u x.y ds x.da x.dc) => refLeave_any h.u x.y n true ds x.da x.dc w h1 (by have := HK.out.act; omega) (by have := HK.out.pas; omega) HK.out.pm HK.out.dr)
  have HN := Lib.hid (rLeave_len h.u n true ds).2.2.2
  obtain ⟨u', b', ds', hv⟩ : ∃ u' b' ds', rLeave h.u n true ds = (u', b', ds') := ⟨_, _, _, rfl⟩
  rw [hv] at CL HN ⊢
  simp only at CL HN ⊢
  clear hk hv
  obtain ⟨w1, hw1⟩ : ∃ w1, w1 = (W.alloc (.cells (h.arr ds x) 137)).alloc (.cells rhZ 137) := ⟨_, rfl⟩
  obtain ⟨b0, hb0⟩ : ∃ b, b = W.heap.size := ⟨_, rfl⟩
  obtain ⟨b1, hb1⟩ : ∃ b, b = W.heap.size + 1 := ⟨_, rfl⟩
  have ST1 := Lib.hid (show Sta W O p D [⟨b1, rhZ, 137⟩, ⟨b0, h.arr ds x, 137⟩] [] (rhrows h ds x []) w1 by rw [hw1]; exact (hs.box _ _ hb0).box _ _ (by rw [World.size_alloc]; exact hb1))
  have HW1 := Lib.hid hw1
  have HB0 := Lib.hid hb0
  have HB1 := Lib.hid hb1
  clear hw1 hb0 hb1 hs
  go_enter Try.func66, Try.ntmps66
  go_upto_region 1 with fail
  rw [← HW1.out, ← HB1.out, ← HB0.out]
  clear HW1 HB0 HB1
  go_upto_region 1 with fail
  refine wp_region_lit ?_
  iterate 3 go_step
  refine wpList_load_mid (by rfl) 51 _ (by rfl) b0 0 (by rfl) (Array.toList (rwArr h.u x.y ds x.da x.dc)) _ (rangeIn (cs := h.arr ds x) (ST1.out.blkAt 1 rfl) 0 (by rfl)) Try.underlying51 rfl Try.infoRefView ?_
  go_wp2_with fail
  refine (CL.out _ (ST1.out.rw_ (u := h.u) (y := x.y) (ds := ds) (da := x.da) (dc := x.dc) (at_ 0 rfl) (at_ 1 rfl) (at_ 2 rfl))).mono ?_
  intro e w2 hst
  obtain ⟨y2, day2, dcy2, rfl, hst2⟩ := ST1.out.callR (u := h.u) (y := x.y) (ds := ds) (da := x.da) (dc := x.dc) (at_ 0 rfl) (at_ 1 rfl) (at_ 2 rfl) HN.out hst
  have ST2 := Lib.hid (show Sta W O p D [⟨b1, rhZ, 137⟩, ⟨b0, h.arr ds x, 137⟩] [] (rrows u' y2 ds' day2 dcy2 (rhrows h ds x [])) w2 from hst2)
  clear hst hst2 ST1
  go_wp2_with (refine wpList_storeB (o := 0) (vs := rwArr u' y2 ds' day2 dcy2) (ST2.out.blkAt 1 rfl) (by rfl) 51 _ _ (by rfl) (by rfl) (by rfl) (Nat.le_of_ble_eq_true rfl) Try.infoRefView (by rw [← Array.all_toList]; rfl) ?_)
  intro w3 f_ b_
  have ST3 := Lib.hid (show Sta W O p D [⟨b1, rhZ, 137⟩, ⟨b0, #[.int .i64 u'.self, .slice y2.aa u'.act.length y2.ac, .slice y2.pa u'.pas.length y2.pc, .int .i64 u'.am, .int .i64 u'.pm, .slice day2 ds'.length dcy2, .slice x.ka h.asked.length x.kc], 137⟩] [] (rrows u' y2 ds' day2 dcy2 (rhrows h ds x [])) w3 from ST2.out.store 1 rfl f_ b_)
  clear ST2 f_ b_
  go_upto_region 2 with fail
  refine wp_region_lit ?_
  refine wpList_load_mid (by rfl) 137 _ (by rfl) b0 0 (by rfl) (Array.toList (#[.int .i64 u'.self, .slice y2.aa u'.act.length y2.ac, .slice y2.pa u'.pas.length y2.pc, .int .i64 u'.am, .int .i64 u'.pm, .slice day2 ds'.length dcy2, .slice x.ka h.asked.length x.kc])) _ (blk_range (ST3.out.blkAt 1 rfl)) Try.underlying137 rfl Try.infoRefHand ?_
  go_wp2_with (refine wpList_storeW (vs := #[.int .i64 u'.self, .slice y2.aa u'.act.length y2.ac, .slice y2.pa u'.pas.length y2.pc, .int .i64 u'.am, .int .i64 u'.pm, .slice day2 ds'.length dcy2, .slice x.ka h.asked.length x.kc]) (ST3.out.blkAt 0 rfl) (by rfl) 137 _ _ (by rfl) (by rfl) (by rfl) rfl Try.infoRefHand (by rw [← Array.all_toList]; rfl) ?_)
  intro w4 f_ b_
  have ST4 := Lib.hid (show Sta W O p D [⟨b1, #[.int .i64 u'.self, .slice y2.aa u'.act.length y2.ac, .slice y2.pa u'.pas.length y2.pc, .int .i64 u'.am, .int .i64 u'.pm, .slice day2 ds'.length dcy2, .slice x.ka h.asked.length x.kc], 137⟩, ⟨b0, #[.int .i64 u'.self, .slice y2.aa u'.act.length y2.ac, .slice y2.pa u'.pas.length y2.pc, .int .i64 u'.am, .int .i64 u'.pm, .slice day2 ds'.length dcy2, .slice x.ka h.asked.length x.kc], 137⟩] [] (rrows u' y2 ds' day2 dcy2 (rhrows h ds x [])) w4 from ST3.out.store 0 rfl f_ b_)
  clear ST3 f_ b_
  have LL : Hid ((loadVar 137 ⟨b1, 0, none⟩).run Try.prog w4 = .ok (.agg (#[.int .i64 u'.self, .slice y2.aa u'.act.length y2.ac, .slice y2.pa u'.pas.length y2.pc, .int .i64 u'.am, .int .i64 u'.pm, .slice day2 ds'.length dcy2, .slice x.ka h.asked.length x.kc])) w4) := Lib.hid (run_loadVar_mid w4 b1 0 137 (Array.toList (#[.int .i64 u'.self, .slice y2.aa u'.act.length y2.ac, .slice y2.pa u'.pas.length y2.pc, .int .i64 u'.am, .int .i64 u'.pm, .slice day2 ds'.length dcy2, .slice x.ka h.asked.length x.kc])) _ (blk_range (ST4.out.blkAt 0 rfl)) Try.underlying137 rfl Try.infoRefHand)
  have LA : Hid ((asAddr (.pointer (some ⟨b1, 0, none⟩))).run Try.prog w4 = .ok ⟨b1, 0, none⟩ w4) := Lib.hid (by simp [go_sem])
  go_wp2_with fail
  refine bodyPost_ret (v := .agg (#[.int .i64 u'.self, .slice y2.aa u'.act.length y2.ac, .slice y2.pa u'.pas.length y2.pc, .int .i64 u'.am, .int .i64 u'.pm, .slice day2 ds'.length dcy2, .slice x.ka h.asked.length x.kc])) (by simp [results, Try.results66, Sem.run_bind, Result.andThen_ok, LL.out, LA.out]) rfl ?_
  exact ⟨⟨y2, day2, dcy2, x.ka, x.kc⟩, rfl, ST4.out.out (List.Sublist.refl _) (inC (at_ 0 rfl) (inC (at_ 1 rfl) (inC (at_ 2 rfl) (inC (at_ 6 rfl) inN))))⟩

set_option maxHeartbeats 4000000 in
set_option maxRecDepth 100000 in
theorem refOnBreak11_any (h : Rh) (ds : List Int) (x : RhP) (n : Int) (p : Value) (D : List Int) (O : Nat → Prop) (W : World) (hs : Sta W O p D [] [] (rhrows h ds x []) W) (hk : RhOk h ds) :
    Calls Try.prog 67 #[.agg (h.arr ds x), .int .i64 n] W (REnd0 W O p D (rhOnBreak h n ds) (rLeave h.u n false ds).2.2 (fun a => .agg a)) := by
  unfold rhOnBreak
  have HK := Lib.hid hk
  have CL := Lib.hid (fun w (h1 : RwAt w h.u x.y ds x.da x.dc) => refLeave_any h.u x.y n false ds x.da x.dc w h1 (by have := HK.out.act; omega) (by have := HK.out.pas; omega) HK.out.pm HK.out.dr)
  have HN := Lib.hid (rLeave_len h.u n false ds).2.2.2
  have HL := Lib.hid (rLeave_len h.u n false ds).2.1
  obtain ⟨u', b', ds', hv⟩ : ∃ u' b' ds', rLeave h.u n false ds = (u', b', ds') := ⟨_, _, _, rfl⟩
  rw [hv] at CL HN HL ⊢
  simp only at CL HN HL ⊢
  have CG := Lib.hid (fun y da dc w (h1 : RwAt w u' y ds' da dc) => refForget_any u' y n ds' da dc w h1 (by have := HL.out; have := HK.out.pas; omega))
  have CD := Lib.hid (fun w (h1 : SlA w x.ka h.asked.length x.kc (ints h.asked)) => refDrop11_any x.ka x.kc h.asked n w h1 (by have := HK.out.asked; omega))
  clear hk hv
  obtain ⟨w1, hw1⟩ : ∃ w1, w1 = (W.alloc (.cells (h.arr ds x) 137)).alloc (.cells rhZ 137) := ⟨_, rfl⟩
  obtain ⟨b0, hb0⟩ : ∃ b, b = W.heap.size := ⟨_, rfl⟩
  obtain ⟨b1, hb1⟩ : ∃ b, b = W.heap.size + 1 := ⟨_, rfl⟩
  have ST1 := Lib.hid (show Sta W O p D [⟨b1, rhZ, 137⟩, ⟨b0, h.arr ds x, 137⟩] [] (rhrows h ds x []) w1 by rw [hw1]; exact (hs.box _ _ hb0).box _ _ (by rw [World.size_alloc]; exact hb1))
  have HW1 := Lib.hid hw1
  have HB0 := Lib.hid hb0
  have HB1 := Lib.hid hb1
  clear hw1 hb0 hb1 hs
  have l16 := (ST1.out.rowAt 3 rfl).le
  have l17 := (ST1.out.rowAt 3 rfl).max
  go_enter Try.func67, Try.ntmps67
  go_upto_region 1 with fail
  rw [← HW1.out, ← HB1.out, ← HB0.out]
  clear HW1 HB0 HB1
  have y6 : w1.cell? ⟨b0, 6, none⟩ = some (.slice x.ka h.asked.length x.kc) := ST1.out.cell 1 6 rfl rfl
  have zf : w1.frozen? ⟨b0, 6, none⟩ = false := ST1.out.froz 1 6 rfl
  go_upto_region 1 with fail
  go_wp2_with fail
  refine (CD.out _ (ST1.out.rowAt 3 rfl)).mono ?_
  intro e w2 hst
  obtain ⟨kd, cd, rfl, hst2⟩ := ST1.out.callI hst
  have ST2 := Lib.hid (show Sta W O p D [⟨b1, rhZ, 137⟩, ⟨b0, h.arr ds x, 137⟩] [] (⟨kd, (rDrop h.asked n).length, cd, ints (rDrop h.asked n)⟩ :: rhrows h ds x []) w2 from hst2)
  clear hst hst2 ST1 y6 zf CD
  have zf : w2.frozen? ⟨b0, 6, none⟩ = false := ST2.out.froz 1 6 rfl
  have y6 : w2.cell? ⟨b0, 6, none⟩ = some (.slice x.ka h.asked.length x.kc) := ST2.out.cell 1 6 rfl rfl
  go_upto_region 2 with fail
  obtain ⟨w3, hw_⟩ : ∃ x, x = w2.setCell ⟨b0, 6, none⟩ (.slice kd (rDrop h.asked n).length cd) := ⟨_, rfl⟩
  rw [← hw_]
  have ST3 := Lib.hid (show Sta W O p D [⟨b1, rhZ, 137⟩, ⟨b0, #[.int .i64 h.u.self, .slice x.y.aa h.u.act.length x.y.ac, .slice x.y.pa h.u.pas.length x.y.pc, .int .i64 h.u.am, .int .i64 h.u.pm, .slice x.da ds.length x.dc, .slice kd (rDrop h.asked n).length cd], 137⟩] [] (⟨kd, (rDrop h.asked n).length, cd, ints (rDrop h.asked n)⟩ :: rhrows h ds x []) w3 from hw_ ▸ ST2.out.setC 1 rfl 6 (.slice kd (rDrop h.asked n).length cd) (Nat.le_of_ble_eq_true rfl))
  clear ST2 hw_
  clear zf y6
  go_upto_region 2 with fail
  refine wp_region_lit ?_
  iterate 3 go_step
  refine wpList_load_mid (by rfl) 51 _ (by rfl) b0 0 (by rfl) (Array.toList (rwArr h.u x.y ds x.da x.dc)) _ (rangeIn (cs := #[.int .i64 h.u.self, .slice x.y.aa h.u.act.length x.y.ac, .slice x.y.pa h.u.pas.length x.y.pc, .int .i64 h.u.am, .int .i64 h.u.pm, .slice x.da ds.length x.dc, .slice kd (rDrop h.asked n).length cd]) (ST3.out.blkAt 1 rfl) 0 (by rfl)) Try.underlying51 rfl Try.infoRefView ?_
  go_wp2_with fail
  refine (CL.out _ (ST3.out.rw_ (u := h.u) (y := x.y) (ds := ds) (da := x.da) (dc := x.dc) (at_ 1 rfl) (at_ 2 rfl) (at_ 3 rfl))).mono ?_
  intro e w4 hst
  obtain ⟨y2, day2, dcy2, rfl, hst2⟩ := ST3.out.callR (u := h.u) (y := x.y) (ds := ds) (da := x.da) (dc := x.dc) (at_ 1 rfl) (at_ 2 rfl) (at_ 3 rfl) HN.out hst
  have ST4 := Lib.hid (show Sta W O p D [⟨b1, rhZ, 137⟩, ⟨b0, #[.int .i64 h.u.self, .slice x.y.aa h.u.act.length x.y.ac, .slice x.y.pa h.u.pas.length x.y.pc, .int .i64 h.u.am, .int .i64 h.u.pm, .slice x.da ds.length x.dc, .slice kd (rDrop h.asked n).length cd], 137⟩] [] (rrows u' y2 ds' day2 dcy2 (⟨kd, (rDrop h.asked n).length, cd, ints (rDrop h.asked n)⟩ :: rhrows h ds x [])) w4 from hst2)
  clear hst hst2 ST3
  go_wp2_with (refine wpList_storeB (o := 0) (vs := rwArr u' y2 ds' day2 dcy2) (ST4.out.blkAt 1 rfl) (by rfl) 51 _ _ (by rfl) (by rfl) (by rfl) (Nat.le_of_ble_eq_true rfl) Try.infoRefView (by rw [← Array.all_toList]; rfl) ?_)
  intro w5 f_ b_
  have ST5 := Lib.hid (show Sta W O p D [⟨b1, rhZ, 137⟩, ⟨b0, #[.int .i64 u'.self, .slice y2.aa u'.act.length y2.ac, .slice y2.pa u'.pas.length y2.pc, .int .i64 u'.am, .int .i64 u'.pm, .slice day2 ds'.length dcy2, .slice kd (rDrop h.asked n).length cd], 137⟩] [] (rrows u' y2 ds' day2 dcy2 (⟨kd, (rDrop h.asked n).length, cd, ints (rDrop h.asked n)⟩ :: rhrows h ds x [])) w5 from ST4.out.store 1 rfl f_ b_)
  clear ST4 f_ b_
  go_upto_region 3 with fail
  refine wp_region_lit ?_
  iterate 3 go_step
  refine wpList_load_mid (by rfl) 51 _ (by rfl) b0 0 (by rfl) (Array.toList (rwArr u' y2 ds' day2 dcy2)) _ (rangeIn (cs := #[.int .i64 u'.self, .slice y2.aa u'.act.length y2.ac, .slice y2.pa u'.pas.length y2.pc, .int .i64 u'.am, .int .i64 u'.pm, .slice day2 ds'.length dcy2, .slice kd (rDrop h.asked n).length cd]) (ST5.out.blkAt 1 rfl) 0 (by rfl)) Try.underlying51 rfl Try.infoRefView ?_
  go_wp2_with fail
  refine (CG.out y2 day2 dcy2 _ (ST5.out.rw_ (u := u') (y := y2) (ds := ds') (da := day2) (dc := dcy2) (at_ 0 rfl) (at_ 1 rfl) (at_ 2 rfl))).mono ?_
  intro e w6 hst
  obtain ⟨y3, day3, dcy3, rfl, hst2⟩ := ST5.out.callR (u := u') (y := y2) (ds := ds') (da := day2) (dc := dcy2) (at_ 0 rfl) (at_ 1 rfl) (at_ 2 rfl) (fun h => h) hst
  have ST6 := Lib.hid (show Sta W O p D [⟨b1, rhZ, 137⟩, ⟨b0, #[.int .i64 u'.self, .slice y2.aa u'.act.length y2.ac, .slice y2.pa u'.pas.length y2.pc, .int .i64 u'.am, .int .i64 u'.pm, .slice day2 ds'.length dcy2, .slice kd (rDrop h.asked n).length cd], 137⟩] [] (rrows (rForget u' n) y3 ds' day3 dcy3 (rrows u' y2 ds' day2 dcy2 (⟨kd, (rDrop h.asked n).length, cd, ints (rDrop h.asked n)⟩ :: rhrows h ds x []))) w6 from hst2)
  clear hst hst2 ST5
  go_wp2_with (refine wpList_storeB (o := 0) (vs := rwArr (rForget u' n) y3 ds' day3 dcy3) (ST6.out.blkAt 1 rfl) (by rfl) 51 _ _ (by rfl) (by rfl) (by rfl) (Nat.le_of_ble_eq_true rfl) Try.infoRefView (by rw [← Array.all_toList]; rfl) ?_)
  intro w7 f_ b_
  have ST7 := Lib.hid (show Sta W O p D [⟨b1, rhZ, 137⟩, ⟨b0, #[.int .i64 (rForget u' n).self, .slice y3.aa (rForget u' n).act.length y3.ac, .slice y3.pa (rForget u' n).pas.length y3.pc, .int .i64 (rForget u' n).am, .int .i64 (rForget u' n).pm, .slice day3 ds'.length dcy3, .slice kd (rDrop h.asked n).length cd], 137⟩] [] (rrows (rForget u' n) y3 ds' day3 dcy3 (rrows u' y2 ds' day2 dcy2 (⟨kd, (rDrop h.asked n).length, cd, ints (rDrop h.asked n)⟩ :: rhrows h ds x []))) w7 from ST6.out.store 1 rfl f_ b_)
  clear ST6 f_ b_
  go_upto_region 4 with fail
  refine wp_region_lit ?_
  refine wpList_load_mid (by rfl) 137 _ (by rfl) b0 0 (by rfl) (Array.toList (#[.int .i64 (rForget u' n).self, .slice y3.aa (rForget u' n).act.length y3.ac, .slice y3.pa (rForget u' n).pas.length y3.pc, .int .i64 (rForget u' n).am, .int .i64 (rForget u' n).pm, .slice day3 ds'.length dcy3, .slice kd (rDrop h.asked n).length cd])) _ (blk_range (ST7.out.blkAt 1 rfl)) Try.underlying137 rfl Try.infoRefHand ?_
  go_wp2_with (refine wpList_storeW (vs := #[.int .i64 (rForget u' n).self, .slice y3.aa (rForget u' n).act.length y3.ac, .slice y3.pa (rForget u' n).pas.length y3.pc, .int .i64 (rForget u' n).am, .int .i64 (rForget u' n).pm, .slice day3 ds'.length dcy3, .slice kd (rDrop h.asked n).length cd]) (ST7.out.blkAt 0 rfl) (by rfl) 137 _ _ (by rfl) (by rfl) (by rfl) rfl Try.infoRefHand (by rw [← Array.all_toList]; rfl) ?_)
  intro w8 f_ b_
  have ST8 := Lib.hid (show Sta W O p D [⟨b1, #[.int .i64 (rForget u' n).self, .slice y3.aa (rForget u' n).act.length y3.ac, .slice y3.pa (rForget u' n).pas.length y3.pc, .int .i64 (rForget u' n).am, .int .i64 (rForget u' n).pm, .slice day3 ds'.length dcy3, .slice kd (rDrop h.asked n).length cd], 137⟩, ⟨b0, #[.int .i64 (rForget u' n).self, .slice y3.aa (rForget u' n).act.length y3.ac, .slice y3.pa (rForget u' n).pas.length y3.pc, .int .i64 (rForget u' n).am, .int .i64 (rForget u' n).pm, .slice day3 ds'.length dcy3, .slice kd (rDrop h.asked n).length cd], 137⟩] [] (rrows (rForget u' n) y3 ds' day3 dcy3 (rrows u' y2 ds' day2 dcy2 (⟨kd, (rDrop h.asked n).length, cd, ints (rDrop h.asked n)⟩ :: rhrows h ds x []))) w8 from ST7.out.store 0 rfl f_ b_)
  clear ST7 f_ b_
  have LL : Hid ((loadVar 137 ⟨b1, 0, none⟩).run Try.prog w8 = .ok (.agg (#[.int .i64 (rForget u' n).self, .slice y3.aa (rForget u' n).act.length y3.ac, .slice y3.pa (rForget u' n).pas.length y3.pc, .int .i64 (rForget u' n).am, .int .i64 (rForget u' n).pm, .slice day3 ds'.length dcy3, .slice kd (rDrop h.asked n).length cd])) w8) := Lib.hid (run_loadVar_mid w8 b1 0 137 (Array.toList (#[.int .i64 (rForget u' n).self, .slice y3.aa (rForget u' n).act.length y3.ac, .slice y3.pa (rForget u' n).pas.length y3.pc, .int .i64 (rForget u' n).am, .int .i64 (rForget u' n).pm, .slice day3 ds'.length dcy3, .slice kd (rDrop h.asked n).length cd])) _ (blk_range (ST8.out.blkAt 0 rfl)) Try.underlying137 rfl Try.infoRefHand)
  have LA : Hid ((asAddr (.pointer (some ⟨b1, 0, none⟩))).run Try.prog w8 = .ok ⟨b1, 0, none⟩ w8) := Lib.hid (by simp [go_sem])
  go_wp2_with fail
  refine bodyPost_ret (v := .agg (#[.int .i64 (rForget u' n).self, .slice y3.aa (rForget u' n).act.length y3.ac, .slice y3.pa (rForget u' n).pas.length y3.pc, .int .i64 (rForget u' n).am, .int .i64 (rForget u' n).pm, .slice day3 ds'.length dcy3, .slice kd (rDrop h.asked n).length cd])) (by simp [results, Try.results67, Sem.run_bind, Result.andThen_ok, LL.out, LA.out]) rfl ?_
  exact ⟨⟨y3, day3, dcy3, kd, cd⟩, rfl, ST8.out.out (List.Sublist.refl _) (inC (at_ 0 rfl) (inC (at_ 1 rfl) (inC (at_ 2 rfl) (inC (at_ 6 rfl) inN))))⟩

set_option maxHeartbeats 4000000 in
set_option maxRecDepth 100000 in
theorem refTake11_any (h : Rh) (ds : List Int) (x : RhP) (n : Int) (p : Value) (D : List Int) (O : Nat → Prop) (W : World) (hs : Sta W O p D [] [] (rhrows h ds x []) W) (hk : RhOk h ds) :
    Calls Try.prog 98 #[.agg (h.arr ds x), .int .i64 n] W (REnd W O p D (rhTake h n ds).1 (rhTake h n ds).2.2 (rhTake h n ds).2.1 (fun a ov => .tuple #[.agg a, ov])) := by
  obtain ⟨iv, hv1, hv2, hv3⟩ := info_pair Try.zeroRefView
  obtain ⟨h', o, dn, hh⟩ : ∃ h' o dn, rhTake h n ds = (h', o, dn) := ⟨_, _, _, rfl⟩
  rw [hh]
  simp only
  have HH := Lib.hid hh
  have HK := Lib.hid hk
  have CH := Lib.hid (fun w (h1 : SlA w x.y.aa h.u.act.length x.y.ac (ints h.u.act)) => refHas_any x.y.aa x.y.ac h.u.act n w h1)
  have CE := Lib.hid (fun w (h1 : RwAt w h.u x.y ds x.da x.dc) => refEvict_any h.u x.y ds x.da x.dc w h1 (by have := HK.out.act; omega) (by have := HK.out.pas; omega) HK.out.pm HK.out.dr)
  have HL := Lib.hid (rEvict_len h.u ds)
  obtain ⟨u', old, ok, ds', hv⟩ : ∃ u' old ok ds', rEvict h.u ds = (u', old, ok, ds') := ⟨_, _, _, _, rfl⟩
  have HE := Lib.hid hv
  rw [hv] at CE HL
  simp only at CE HL
  have CD := Lib.hid (fun w (h1 : SlA w x.ka h.asked.length x.kc (ints h.asked)) => refDrop11_any x.ka x.kc h.asked old w h1 (by have := HK.out.asked; omega))
  have CJ := Lib.hid (fun y da dc w (h1 : RwAt w u' y ds' da dc) => refJoin_any u' y n ds' da dc w h1 (by have := HL.out.1; have := HK.out.act; omega) (by have := HL.out.2.1; have := HK.out.pas; omega))
  have CJ0 := Lib.hid (fun w (h1 : RwAt w h.u x.y ds x.da x.dc) => refJoin_any h.u x.y n ds x.da x.dc w h1 (by have := HK.out.act; omega) (by have := HK.out.pas; omega))
  clear hh hk hv
  obtain ⟨w1, hw1⟩ : ∃ w1, w1 = (W.alloc (.cells (h.arr ds x) 137)).alloc (.cells rhZ 137) := ⟨_, rfl⟩
  obtain ⟨b0, hb0⟩ : ∃ b, b = W.heap.size := ⟨_, rfl⟩
  obtain ⟨b1, hb1⟩ : ∃ b, b = W.heap.size + 1 := ⟨_, rfl⟩
  have ST1 := Lib.hid (show Sta W O p D [⟨b1, rhZ, 137⟩, ⟨b0, h.arr ds x, 137⟩] [] (rhrows h ds x []) w1 by rw [hw1]; exact (hs.box _ _ hb0).box _ _ (by rw [World.size_alloc]; exact hb1))
  have HW1 := Lib.hid hw1
  have HB0 := Lib.hid hb0
  have HB1 := Lib.hid hb1
  clear hw1 hb0 hb1 hs
  have l10 := (ST1.out.rowAt 0 rfl).le
  have l11 := (ST1.out.rowAt 0 rfl).max
  have l16 := (ST1.out.rowAt 3 rfl).le
  have l17 := (ST1.out.rowAt 3 rfl).max
  go_enter Try.func98, Try.ntmps98
  go_upto_region 1 with fail
  rw [← HW1.out, ← HB1.out, ← HB0.out]
  clear HW1 HB0 HB1
  have ST2 := Lib.hid (show Sta W O p D [⟨b1, rhZ, 137⟩, ⟨b0, h.arr ds x, 137⟩] [⟨146, 3, .slice none 0 0, 0, []⟩] (rhrows h ds x []) w1 from ST1.out.ownNil 146 3)
  clear ST1
  have y1 : w1.cell? ⟨b0, 1, none⟩ = some (.slice x.y.aa h.u.act.length x.y.ac) := ST2.out.cell 1 1 rfl rfl
  have y3 : w1.cell? ⟨b0, 3, none⟩ = some (.int .i64 h.u.am) := ST2.out.cell 1 3 rfl rfl
  go_wp2_with fail
  refine (CH.out _ (ST2.out.rowAt 0 rfl)).mono ?_
  rintro e _ ⟨rfl, rfl⟩
  cases e1 : has h.u.act n
  case true =>
    obtain ⟨rfl, rfl, rfl⟩ : h = h' ∧ [] = o ∧ ds = dn := by
      have hh := HH.out
      rw [show rhTake h n ds = (h, [], ds) by unfold rhTake; rw [e1, if_pos rfl]] at hh
      injection hh with a b
      injection b with b c
      exact ⟨a, b, c⟩
    clear HH e1 HE HL CE CD CJ CJ0 CH y1 y3
    go_upto_region 3 with fail
    refine wp_region_lit ?_
    refine wpList_load_mid (by rfl) 137 _ (by rfl) b0 0 (by rfl) (Array.toList (h.arr ds x)) _ (blk_range (ST2.out.blkAt 1 rfl)) Try.underlying137 rfl Try.infoRefHand ?_
    go_wp2_with (refine wpList_storeW (vs := h.arr ds x) (ST2.out.blkAt 0 rfl) (by rfl) 137 _ _ (by rfl) (by rfl) (by rfl) rfl Try.infoRefHand (by rw [← Array.all_toList]; rfl) ?_)
    intro w9 f_ b_
    have ST3 := Lib.hid (show Sta W O p D [⟨b1, h.arr ds x, 137⟩, ⟨b0, h.arr ds x, 137⟩] [⟨146, 3, .slice none 0 0, 0, []⟩] (rhrows h ds x []) w9 from ST2.out.store 0 rfl f_ b_)
    clear ST2 f_ b_
    have LL : Hid ((loadVar 137 ⟨b1, 0, none⟩).run Try.prog w9 = .ok (.agg (h.arr ds x)) w9) := Lib.hid (run_loadVar_mid w9 b1 0 137 (Array.toList (h.arr ds x)) _ (blk_range (ST3.out.blkAt 0 rfl)) Try.underlying137 rfl Try.infoRefHand)
    have LA : Hid ((asAddr (.pointer (some ⟨b1, 0, none⟩))).run Try.prog w9 = .ok ⟨b1, 0, none⟩ w9) := Lib.hid (by simp [go_sem])
    go_wp2_with fail
    refine bodyPost_ret (v := .tuple #[.agg (h.arr ds x), .slice none 0 0]) (by simp [results, Try.results98, Sem.run_bind, Result.andThen_ok, LL.out, LA.out]) rfl ?_
    exact ⟨x, _, rfl, ST3.out.out (List.Sublist.refl _) (inC (at_ 0 rfl) (inC (at_ 1 rfl) (inC (at_ 2 rfl) (inC (at_ 3 rfl) inN))))⟩
  case false =>
    by_cases hfull : h.u.am ≤ (h.u.act.length : Int)
    · have hd : decide (h.u.am ≤ (h.u.act.length : Int)) = true := decide_eq_true hfull
      have HT : Hid (rhTake h n ds = (⟨rJoin u' n, if ok = true then rDrop h.asked old else h.asked⟩, if ok = true then [⟨old, 6, false⟩] else [], ds')) := Lib.hid (by unfold rhTake raFull; rw [e1, if_neg (by decide), hd, if_pos rfl, HE.out])
      clear e1 HE CJ0 CH
      go_upto_region 4 with fail
      go_upto_region 5 with fail
      clear y1 y3 hd hfull
      refine wp_region_lit ?_
      iterate 3 go_step
      refine wpList_load_mid (by rfl) 51 _ (by rfl) b0 0 (by rfl) (Array.toList (rwArr h.u x.y ds x.da x.dc)) _ (rangeIn (cs := h.arr ds x) (ST2.out.blkAt 1 rfl) 0 (by rfl)) Try.underlying51 rfl Try.infoRefView ?_
      go_wp2_with fail
      refine (CE.out _ (ST2.out.rw_ (u := h.u) (y := x.y) (ds := ds) (da := x.da) (dc := x.dc) (at_ 0 rfl) (at_ 1 rfl) (at_ 2 rfl))).mono ?_
      intro e w3 hst
      obtain ⟨y2, day2, dcy2, rfl, hst2⟩ := ST2.out.callR (u := h.u) (y := x.y) (ds := ds) (da := x.da) (dc := x.dc) (at_ 0 rfl) (at_ 1 rfl) (at_ 2 rfl) HL.out.2.2.2 hst
      have ST3 := Lib.hid (show Sta W O p D [⟨b1, rhZ, 137⟩, ⟨b0, h.arr ds x, 137⟩] [⟨146, 3, .slice none 0 0, 0, []⟩] (rrows u' y2 ds' day2 dcy2 (rhrows h ds x [])) w3 from hst2)
      clear hst hst2 ST2
      go_wp2_with (refine wpList_fresh (vs := rwArr u' y2 ds' day2 dcy2) hv1 hv2 Try.infoRefView (by rfl) (by rw [← Array.all_toList]; rfl) (by rfl) (by rfl) ?_)
      intro w4 f_ b_ l_
      obtain ⟨z, hb_⟩ : ∃ b, b = w3.heap.size := ⟨_, rfl⟩
      rw [← hb_] at b_ l_ ⊢
      have ST4 := Lib.hid (show Sta W O p D [⟨z, rwArr u' y2 ds' day2 dcy2, 51⟩, ⟨b1, rhZ, 137⟩, ⟨b0, h.arr ds x, 137⟩] [⟨146, 3, .slice none 0 0, 0, []⟩] (rrows u' y2 ds' day2 dcy2 (rhrows h ds x [])) w4 from ST3.out.var f_ b_ (Nat.le_of_eq hb_.symm))
      clear ST3 f_ b_ l_ hb_
      go_upto_region 6 with fail
      refine wp_region_lit ?_
      refine wpList_load_mid (by rfl) 51 _ (by rfl) z 0 (by rfl) (Array.toList (rwArr u' y2 ds' day2 dcy2)) _ (blk_range (ST4.out.blkAt 0 rfl)) Try.underlying51 rfl Try.infoRefView ?_
      go_wp2_with (refine wpList_storeB (o := 0) (vs := rwArr u' y2 ds' day2 dcy2) (ST4.out.blkAt 2 rfl) (by rfl) 51 _ _ (by rfl) (by rfl) (by rfl) (Nat.le_of_ble_eq_true rfl) Try.infoRefView (by rw [← Array.all_toList]; rfl) ?_)
      intro w5 f_ b_
      have ST5 := Lib.hid (show Sta W O p D [⟨z, rwArr u' y2 ds' day2 dcy2, 51⟩, ⟨b1, rhZ, 137⟩, ⟨b0, #[.int .i64 u'.self, .slice y2.aa u'.act.length y2.ac, .slice y2.pa u'.pas.length y2.pc, .int .i64 u'.am, .int .i64 u'.pm, .slice day2 ds'.length dcy2, .slice x.ka h.asked.length x.kc], 137⟩] [⟨146, 3, .slice none 0 0, 0, []⟩] (rrows u' y2 ds' day2 dcy2 (rhrows h ds x [])) w5 from ST4.out.store 2 rfl f_ b_)
      clear ST4 f_ b_
      cases ok
      case false =>
        obtain ⟨rfl, rfl, rfl⟩ : (⟨rJoin u' n, h.asked⟩ : Rh) = h' ∧ [] = o ∧ ds' = dn := by
          have hh := HH.out
          rw [show rhTake h n ds = ((⟨rJoin u' n, h.asked⟩ : Rh), [], ds') by rw [HT.out]; simp] at hh
          injection hh with a b
          injection b with b c
          exact ⟨a, b, c⟩
        clear HH HT CD HL
        go_upto_region 10 with fail
        refine wp_region_lit ?_
        iterate 3 go_step
        refine wpList_load_mid (by rfl) 51 _ (by rfl) b0 0 (by rfl) (Array.toList (rwArr u' y2 ds' day2 dcy2)) _ (rangeIn (cs := #[.int .i64 u'.self, .slice y2.aa u'.act.length y2.ac, .slice y2.pa u'.pas.length y2.pc, .int .i64 u'.am, .int .i64 u'.pm, .slice day2 ds'.length dcy2, .slice x.ka h.asked.length x.kc]) (ST5.out.blkAt 2 rfl) 0 (by rfl)) Try.underlying51 rfl Try.infoRefView ?_
        go_wp2_with fail
        refine (CJ.out y2 day2 dcy2 _ (ST5.out.rw_ (u := u') (y := y2) (ds := ds') (da := day2) (dc := dcy2) (at_ 0 rfl) (at_ 1 rfl) (at_ 2 rfl))).mono ?_
        intro e w8 hst
        obtain ⟨yj, dayj, dcyj, rfl, hst2⟩ := ST5.out.callR (u := u') (y := y2) (ds := ds') (da := day2) (dc := dcy2) (at_ 0 rfl) (at_ 1 rfl) (at_ 2 rfl) (fun h => h) hst
        have ST6 := Lib.hid (show Sta W O p D [⟨z, rwArr u' y2 ds' day2 dcy2, 51⟩, ⟨b1, rhZ, 137⟩, ⟨b0, #[.int .i64 u'.self, .slice y2.aa u'.act.length y2.ac, .slice y2.pa u'.pas.length y2.pc, .int .i64 u'.am, .int .i64 u'.pm, .slice day2 ds'.length dcy2, .slice x.ka h.asked.length x.kc], 137⟩] [⟨146, 3, .slice none 0 0, 0, []⟩] (rrows (rJoin u' n) yj ds' dayj dcyj (rrows u' y2 ds' day2 dcy2 (rhrows h ds x []))) w8 from hst2)
        clear hst hst2 ST5
        go_wp2_with (refine wpList_storeB (o := 0) (vs := rwArr (rJoin u' n) yj ds' dayj dcyj) (ST6.out.blkAt 2 rfl) (by rfl) 51 _ _ (by rfl) (by rfl) (by rfl) (Nat.le_of_ble_eq_true rfl) Try.infoRefView (by rw [← Array.all_toList]; rfl) ?_)
        intro w9 f_ b_
        have ST7 := Lib.hid (show Sta W O p D [⟨z, rwArr u' y2 ds' day2 dcy2, 51⟩, ⟨b1, rhZ, 137⟩, ⟨b0, #[.int .i64 (rJoin u' n).self, .slice yj.aa (rJoin u' n).act.length yj.ac, .slice yj.pa (rJoin u' n).pas.length yj.pc, .int .i64 (rJoin u' n).am, .int .i64 (rJoin u' n).pm, .slice dayj ds'.length dcyj, .slice x.ka h.asked.length x.kc], 137⟩] [⟨146, 3, .slice none 0 0, 0, []⟩] (rrows (rJoin u' n) yj ds' dayj dcyj (rrows u' y2 ds' day2 dcy2 (rhrows h ds x []))) w9 from ST6.out.store 2 rfl f_ b_)
        clear ST6 f_ b_
        go_upto_region 11 with fail
        refine wp_region_lit ?_
        refine wpList_load_mid (by rfl) 137 _ (by rfl) b0 0 (by rfl) (Array.toList (#[.int .i64 (rJoin u' n).self, .slice yj.aa (rJoin u' n).act.length yj.ac, .slice yj.pa (rJoin u' n).pas.length yj.pc, .int .i64 (rJoin u' n).am, .int .i64 (rJoin u' n).pm, .slice dayj ds'.length dcyj, .slice x.ka h.asked.length x.kc])) _ (blk_range (ST7.out.blkAt 2 rfl)) Try.underlying137 rfl Try.infoRefHand ?_
        go_wp2_with (refine wpList_storeW (vs := #[.int .i64 (rJoin u' n).self, .slice yj.aa (rJoin u' n).act.length yj.ac, .slice yj.pa (rJoin u' n).pas.length yj.pc, .int .i64 (rJoin u' n).am, .int .i64 (rJoin u' n).pm, .slice dayj ds'.length dcyj, .slice x.ka h.asked.length x.kc]) (ST7.out.blkAt 1 rfl) (by rfl) 137 _ _ (by rfl) (by rfl) (by rfl) rfl Try.infoRefHand (by rw [← Array.all_toList]; rfl) ?_)
        intro wz f_ b_
        have ST8 := Lib.hid (show Sta W O p D [⟨z, rwArr u' y2 ds' day2 dcy2, 51⟩, ⟨b1, #[.int .i64 (rJoin u' n).self, .slice yj.aa (rJoin u' n).act.length yj.ac, .slice yj.pa (rJoin u' n).pas.length yj.pc, .int .i64 (rJoin u' n).am, .int .i64 (rJoin u' n).pm, .slice dayj ds'.length dcyj, .slice x.ka h.asked.length x.kc], 137⟩, ⟨b0, #[.int .i64 (rJoin u' n).self, .slice yj.aa (rJoin u' n).act.length yj.ac, .slice yj.pa (rJoin u' n).pas.length yj.pc, .int .i64 (rJoin u' n).am, .int .i64 (rJoin u' n).pm, .slice dayj ds'.length dcyj, .slice x.ka h.asked.length x.kc], 137⟩] [⟨146, 3, .slice none 0 0, 0, []⟩] (rrows (rJoin u' n) yj ds' dayj dcyj (rrows u' y2 ds' day2 dcy2 (rhrows h ds x []))) wz from ST7.out.store 1 rfl f_ b_)
        clear ST7 f_ b_
        have LL : Hid ((loadVar 137 ⟨b1, 0, none⟩).run Try.prog wz = .ok (.agg (#[.int .i64 (rJoin u' n).self, .slice yj.aa (rJoin u' n).act.length yj.ac, .slice yj.pa (rJoin u' n).pas.length yj.pc, .int .i64 (rJoin u' n).am, .int .i64 (rJoin u' n).pm, .slice dayj ds'.length dcyj, .slice x.ka h.asked.length x.kc])) wz) := Lib.hid (run_loadVar_mid wz b1 0 137 (Array.toList (#[.int .i64 (rJoin u' n).self, .slice yj.aa (rJoin u' n).act.length yj.ac, .slice yj.pa (rJoin u' n).pas.length yj.pc, .int .i64 (rJoin u' n).am, .int .i64 (rJoin u' n).pm, .slice dayj ds'.length dcyj, .slice x.ka h.asked.length x.kc])) _ (blk_range (ST8.out.blkAt 1 rfl)) Try.underlying137 rfl Try.infoRefHand)
        have LA : Hid ((asAddr (.pointer (some ⟨b1, 0, none⟩))).run Try.prog wz = .ok ⟨b1, 0, none⟩ wz) := Lib.hid (by simp [go_sem])
        go_wp2_with fail
        refine bodyPost_ret (v := .tuple #[.agg (#[.int .i64 (rJoin u' n).self, .slice yj.aa (rJoin u' n).act.length yj.ac, .slice yj.pa (rJoin u' n).pas.length yj.pc, .int .i64 (rJoin u' n).am, .int .i64 (rJoin u' n).pm, .slice dayj ds'.length dcyj, .slice x.ka h.asked.length x.kc]), .slice none 0 0]) (by simp [results, Try.results98, Sem.run_bind, Result.andThen_ok, LL.out, LA.out]) rfl ?_
        exact ⟨⟨yj, dayj, dcyj, x.ka, x.kc⟩, _, rfl, ST8.out.out (List.Sublist.refl _) (inC (at_ 0 rfl) (inC (at_ 1 rfl) (inC (at_ 2 rfl) (inC (at_ 9 rfl) inN))))⟩
      case true =>
        obtain ⟨rfl, rfl, rfl⟩ : (⟨rJoin u' n, rDrop h.asked old⟩ : Rh) = h' ∧ [⟨old, 6, false⟩] = o ∧ ds' = dn := by
          have hh := HH.out
          rw [show rhTake h n ds = ((⟨rJoin u' n, rDrop h.asked old⟩ : Rh), [⟨old, 6, false⟩], ds') by rw [HT.out]; simp] at hh
          injection hh with a b
          injection b with b c
          exact ⟨a, b, c⟩
        clear HH HT
        go_upto_region 8 with fail
        go_wp2_with (refine wpList_bldRO (i0 := old) (i1 := 6) (b := false) (by rfl) (by rfl) (by rfl) ?_; refine wpList_bldROs (by rfl) ?_; obtain ⟨w6, hw_⟩ : ∃ x, x = w5.alloc (.cells (#[.int .i64 old, .int .i64 6, .bool false]) 146) := ⟨_, rfl⟩; obtain ⟨ob, hob_⟩ : ∃ b, b = w5.heap.size := ⟨_, rfl⟩; rw [← hw_, ← hob_]; have ST6 := Lib.hid (show Sta W O p D [⟨z, rwArr u' y2 ds' day2 dcy2, 51⟩, ⟨b1, rhZ, 137⟩, ⟨b0, #[.int .i64 u'.self, .slice y2.aa u'.act.length y2.ac, .slice y2.pa u'.pas.length y2.pc, .int .i64 u'.am, .int .i64 u'.pm, .slice day2 ds'.length dcy2, .slice x.ka h.asked.length x.kc], 137⟩] [⟨146, 3, .slice (some ⟨ob, 0, none⟩) 1 1, 1, Ho.rcells ⟨old, 6, false⟩⟩, ⟨146, 3, .slice none 0 0, 0, []⟩] (rrows u' y2 ds' day2 dcy2 (rhrows h ds x [])) w6 from hw_ ▸ ST5.out.ownNew ((Fr.refl _ _).alloc _) (xs := Ho.rcells ⟨old, 6, false⟩) (n := 1) (by rw [heap_alloc_if, if_pos hob_]; rfl) (Nat.le_of_eq hob_.symm) rfl (by decide)); clear ST5 hw_ hob_; refine wpList_growT (by rfl) _ _ 140 146 3 24 (.agg roZ) Try.underlying140 Try.infoRefOutB rfl (by decide) (by decide) (by rfl) ST6.out 1 rfl (by rfl) (by rfl) (own_add (ST6.out.ownAt 0 rfl)) (by rfl) (by rfl) (by decide) ?_)
        intro ow w7 hst
        have ST7 := Lib.hid (show Sta W O p D [⟨z, rwArr u' y2 ds' day2 dcy2, 51⟩, ⟨b1, rhZ, 137⟩, ⟨b0, #[.int .i64 u'.self, .slice y2.aa u'.act.length y2.ac, .slice y2.pa u'.pas.length y2.pc, .int .i64 u'.am, .int .i64 u'.pm, .slice day2 ds'.length dcy2, .slice x.ka h.asked.length x.kc], 137⟩] [⟨146, 3, .slice (some ⟨ob, 0, none⟩) 1 1, 1, Ho.rcells ⟨old, 6, false⟩⟩, ⟨146, 3, ow, 0 + 1, [] ++ Ho.rcells ⟨old, 6, false⟩⟩] (rrows u' y2 ds' day2 dcy2 (rhrows h ds x [])) w7 from hst)
        clear hst ST6
        have y6 : w7.cell? ⟨b0, 6, none⟩ = some (.slice x.ka h.asked.length x.kc) := ST7.out.cell 2 6 rfl rfl
        have zf : w7.frozen? ⟨b0, 6, none⟩ = false := ST7.out.froz 2 6 rfl
        go_upto_region 9 with fail
        go_wp2_with fail
        refine (CD.out _ (ST7.out.rowAt 6 rfl)).mono ?_
        intro e w8 hst
        obtain ⟨kd, cd, rfl, hst2⟩ := ST7.out.callI hst
        have ST8 := Lib.hid (show Sta W O p D [⟨z, rwArr u' y2 ds' day2 dcy2, 51⟩, ⟨b1, rhZ, 137⟩, ⟨b0, #[.int .i64 u'.self, .slice y2.aa u'.act.length y2.ac, .slice y2.pa u'.pas.length y2.pc, .int .i64 u'.am, .int .i64 u'.pm, .slice day2 ds'.length dcy2, .slice x.ka h.asked.length x.kc], 137⟩] [⟨146, 3, .slice (some ⟨ob, 0, none⟩) 1 1, 1, Ho.rcells ⟨old, 6, false⟩⟩, ⟨146, 3, ow, 0 + 1, [] ++ Ho.rcells ⟨old, 6, false⟩⟩] (⟨kd, (rDrop h.asked old).length, cd, ints (rDrop h.asked old)⟩ :: rrows u' y2 ds' day2 dcy2 (rhrows h ds x [])) w8 from hst2)
        clear hst hst2 ST7 y6 zf CD
        have zf : w8.frozen? ⟨b0, 6, none⟩ = false := ST8.out.froz 2 6 rfl
        have y6 : w8.cell? ⟨b0, 6, none⟩ = some (.slice x.ka h.asked.length x.kc) := ST8.out.cell 2 6 rfl rfl
        go_upto_region 10 with fail
        obtain ⟨w8b, hw_⟩ : ∃ x, x = w8.setCell ⟨b0, 6, none⟩ (.slice kd (rDrop h.asked old).length cd) := ⟨_, rfl⟩
        rw [← hw_]
        have ST9 := Lib.hid (show Sta W O p D [⟨z, rwArr u' y2 ds' day2 dcy2, 51⟩, ⟨b1, rhZ, 137⟩, ⟨b0, #[.int .i64 u'.self, .slice y2.aa u'.act.length y2.ac, .slice y2.pa u'.pas.length y2.pc, .int .i64 u'.am, .int .i64 u'.pm, .slice day2 ds'.length dcy2, .slice kd (rDrop h.asked old).length cd], 137⟩] [⟨146, 3, .slice (some ⟨ob, 0, none⟩) 1 1, 1, Ho.rcells ⟨old, 6, false⟩⟩, ⟨146, 3, ow, 0 + 1, [] ++ Ho.rcells ⟨old, 6, false⟩⟩] (⟨kd, (rDrop h.asked old).length, cd, ints (rDrop h.asked old)⟩ :: rrows u' y2 ds' day2 dcy2 (rhrows h ds x [])) w8b from hw_ ▸ ST8.out.setC 2 rfl 6 (.slice kd (rDrop h.asked old).length cd) (Nat.le_of_ble_eq_true rfl))
        clear ST8 hw_
        clear zf y6
        go_upto_region 10 with fail
        refine wp_region_lit ?_
        iterate 3 go_step
        refine wpList_load_mid (by rfl) 51 _ (by rfl) b0 0 (by rfl) (Array.toList (rwArr u' y2 ds' day2 dcy2)) _ (rangeIn (cs := #[.int .i64 u'.self, .slice y2.aa u'.act.length y2.ac, .slice y2.pa u'.pas.length y2.pc, .int .i64 u'.am, .int .i64 u'.pm, .slice day2 ds'.length dcy2, .slice kd (rDrop h.asked old).length cd]) (ST9.out.blkAt 2 rfl) 0 (by rfl)) Try.underlying51 rfl Try.infoRefView ?_
        go_wp2_with fail
        refine (CJ.out y2 day2 dcy2 _ (ST9.out.rw_ (u := u') (y := y2) (ds := ds') (da := day2) (dc := dcy2) (at_ 1 rfl) (at_ 2 rfl) (at_ 3 rfl))).mono ?_
        intro e w8 hst
        obtain ⟨yj, dayj, dcyj, rfl, hst2⟩ := ST9.out.callR (u := u') (y := y2) (ds := ds') (da := day2) (dc := dcy2) (at_ 1 rfl) (at_ 2 rfl) (at_ 3 rfl) (fun h => h) hst
        have ST10 := Lib.hid (show Sta W O p D [⟨z, rwArr u' y2 ds' day2 dcy2, 51⟩, ⟨b1, rhZ, 137⟩, ⟨b0, #[.int .i64 u'.self, .slice y2.aa u'.act.length y2.ac, .slice y2.pa u'.pas.length y2.pc, .int .i64 u'.am, .int .i64 u'.pm, .slice day2 ds'.length dcy2, .slice kd (rDrop h.asked old).length cd], 137⟩] [⟨146, 3, .slice (some ⟨ob, 0, none⟩) 1 1, 1, Ho.rcells ⟨old, 6, false⟩⟩, ⟨146, 3, ow, 0 + 1, [] ++ Ho.rcells ⟨old, 6, false⟩⟩] (rrows (rJoin u' n) yj ds' dayj dcyj (⟨kd, (rDrop h.asked old).length, cd, ints (rDrop h.asked old)⟩ :: rrows u' y2 ds' day2 dcy2 (rhrows h ds x []))) w8 from hst2)
        clear hst hst2 ST9
        go_wp2_with (refine wpList_storeB (o := 0) (vs := rwArr (rJoin u' n) yj ds' dayj dcyj) (ST10.out.blkAt 2 rfl) (by rfl) 51 _ _ (by rfl) (by rfl) (by rfl) (Nat.le_of_ble_eq_true rfl) Try.infoRefView (by rw [← Array.all_toList]; rfl) ?_)
        intro w9 f_ b_
        have ST11 := Lib.hid (show Sta W O p D [⟨z, rwArr u' y2 ds' day2 dcy2, 51⟩, ⟨b1, rhZ, 137⟩, ⟨b0, #[.int .i64 (rJoin u' n).self, .slice yj.aa (rJoin u' n).act.length yj.ac, .slice yj.pa (rJoin u' n).pas.length yj.pc, .int .i64 (rJoin u' n).am, .int .i64 (rJoin u' n).pm, .slice dayj ds'.length dcyj, .slice kd (rDrop h.asked old).length cd], 137⟩] [⟨146, 3, .slice (some ⟨ob, 0, none⟩) 1 1, 1, Ho.rcells ⟨old, 6, false⟩⟩, ⟨146, 3, ow, 0 + 1, [] ++ Ho.rcells ⟨old, 6, false⟩⟩] (rrows (rJoin u' n) yj ds' dayj dcyj (⟨kd, (rDrop h.asked old).length, cd, ints (rDrop h.asked old)⟩ :: rrows u' y2 ds' day2 dcy2 (rhrows h ds x []))) w9 from ST10.out.store 2 rfl f_ b_)
        clear ST10 f_ b_
        go_upto_region 11 with fail
        refine wp_region_lit ?_
        refine wpList_load_mid (by rfl) 137 _ (by rfl) b0 0 (by rfl) (Array.toList (#[.int .i64 (rJoin u' n).self, .slice yj.aa (rJoin u' n).act.length yj.ac, .slice yj.pa (rJoin u' n).pas.length yj.pc, .int .i64 (rJoin u' n).am, .int .i64 (rJoin u' n).pm, .slice dayj ds'.length dcyj, .slice kd (rDrop h.asked old).length cd])) _ (blk_range (ST11.out.blkAt 2 rfl)) Try.underlying137 rfl Try.infoRefHand ?_
        go_wp2_with (refine wpList_storeW (vs := #[.int .i64 (rJoin u' n).self, .slice yj.aa (rJoin u' n).act.length yj.ac, .slice yj.pa (rJoin u' n).pas.length yj.pc, .int .i64 (rJoin u' n).am, .int .i64 (rJoin u' n).pm, .slice dayj ds'.length dcyj, .slice kd (rDrop h.asked old).length cd]) (ST11.out.blkAt 1 rfl) (by rfl) 137 _ _ (by rfl) (by rfl) (by rfl) rfl Try.infoRefHand (by rw [← Array.all_toList]; rfl) ?_)
        intro wz f_ b_
        have ST12 := Lib.hid (show Sta W O p D [⟨z, rwArr u' y2 ds' day2 dcy2, 51⟩, ⟨b1, #[.int .i64 (rJoin u' n).self, .slice yj.aa (rJoin u' n).act.length yj.ac, .slice yj.pa (rJoin u' n).pas.length yj.pc, .int .i64 (rJoin u' n).am, .int .i64 (rJoin u' n).pm, .slice dayj ds'.length dcyj, .slice kd (rDrop h.asked old).length cd], 137⟩, ⟨b0, #[.int .i64 (rJoin u' n).self, .slice yj.aa (rJoin u' n).act.length yj.ac, .slice yj.pa (rJoin u' n).pas.length yj.pc, .int .i64 (rJoin u' n).am, .int .i64 (rJoin u' n).pm, .slice dayj ds'.length dcyj, .slice kd (rDrop h.asked old).length cd], 137⟩] [⟨146, 3, .slice (some ⟨ob, 0, none⟩) 1 1, 1, Ho.rcells ⟨old, 6, false⟩⟩, ⟨146, 3, ow, 0 + 1, [] ++ Ho.rcells ⟨old, 6, false⟩⟩] (rrows (rJoin u' n) yj ds' dayj dcyj (⟨kd, (rDrop h.asked old).length, cd, ints (rDrop h.asked old)⟩ :: rrows u' y2 ds' day2 dcy2 (rhrows h ds x []))) wz from ST11.out.store 1 rfl f_ b_)
        clear ST11 f_ b_
        have LL : Hid ((loadVar 137 ⟨b1, 0, none⟩).run Try.prog wz = .ok (.agg (#[.int .i64 (rJoin u' n).self, .slice yj.aa (rJoin u' n).act.length yj.ac, .slice yj.pa (rJoin u' n).pas.length yj.pc, .int .i64 (rJoin u' n).am, .int .i64 (rJoin u' n).pm, .slice dayj ds'.length dcyj, .slice kd (rDrop h.asked old).length cd])) wz) := Lib.hid (run_loadVar_mid wz b1 0 137 (Array.toList (#[.int .i64 (rJoin u' n).self, .slice yj.aa (rJoin u' n).act.length yj.ac, .slice yj.pa (rJoin u' n).pas.length yj.pc, .int .i64 (rJoin u' n).am, .int .i64 (rJoin u' n).pm, .slice dayj ds'.length dcyj, .slice kd (rDrop h.asked old).length cd])) _ (blk_range (ST12.out.blkAt 1 rfl)) Try.underlying137 rfl Try.infoRefHand)
        have LA : Hid ((asAddr (.pointer (some ⟨b1, 0, none⟩))).run Try.prog wz = .ok ⟨b1, 0, none⟩ wz) := Lib.hid (by simp [go_sem])
        go_wp2_with fail
        refine bodyPost_ret (v := .tuple #[.agg (#[.int .i64 (rJoin u' n).self, .slice yj.aa (rJoin u' n).act.length yj.ac, .slice yj.pa (rJoin u' n).pas.length yj.pc, .int .i64 (rJoin u' n).am, .int .i64 (rJoin u' n).pm, .slice dayj ds'.length dcyj, .slice kd (rDrop h.asked old).length cd]), ow]) (by simp [results, Try.results98, Sem.run_bind, Result.andThen_ok, LL.out, LA.out]) rfl ?_
        exact ⟨⟨yj, dayj, dcyj, kd, cd⟩, _, rfl, ST12.out.out (List.Sublist.cons _ (List.Sublist.refl _)) (inC (at_ 0 rfl) (inC (at_ 1 rfl) (inC (at_ 2 rfl) (inC (at_ 3 rfl) inN))))⟩
    · have hd : decide (h.u.am ≤ (h.u.act.length : Int)) = false := decide_eq_false hfull
      obtain ⟨rfl, rfl, rfl⟩ : (⟨rJoin h.u n, h.asked⟩ : Rh) = h' ∧ [] = o ∧ ds = dn := by
        have hh := HH.out
        rw [show rhTake h n ds = ((⟨rJoin h.u n, h.asked⟩ : Rh), [], ds) by unfold rhTake raFull; rw [e1, if_neg (by decide), hd, if_neg (by decide)]] at hh
        injection hh with a b
        injection b with b c
        exact ⟨a, b, c⟩
      clear HH e1 HE HL CE CD CJ CH
      go_upto_region 4 with fail
      go_upto_region 10 with fail
      clear y1 y3 hd hfull
      refine wp_region_lit ?_
      iterate 3 go_step
      refine wpList_load_mid (by rfl) 51 _ (by rfl) b0 0 (by rfl) (Array.toList (rwArr h.u x.y ds x.da x.dc)) _ (rangeIn (cs := h.arr ds x) (ST2.out.blkAt 1 rfl) 0 (by rfl)) Try.underlying51 rfl Try.infoRefView ?_
      go_wp2_with fail
      refine (CJ0.out _ (ST2.out.rw_ (u := h.u) (y := x.y) (ds := ds) (da := x.da) (dc := x.dc) (at_ 0 rfl) (at_ 1 rfl) (at_ 2 rfl))).mono ?_
      intro e w8 hst
      obtain ⟨yj, dayj, dcyj, rfl, hst2⟩ := ST2.out.callR (u := h.u) (y := x.y) (ds := ds) (da := x.da) (dc := x.dc) (at_ 0 rfl) (at_ 1 rfl) (at_ 2 rfl) (fun h => h) hst
      have ST3 := Lib.hid (show Sta W O p D [⟨b1, rhZ, 137⟩, ⟨b0, h.arr ds x, 137⟩] [⟨146, 3, .slice none 0 0, 0, []⟩] (rrows (rJoin h.u n) yj ds dayj dcyj (rhrows h ds x [])) w8 from hst2)
      clear hst hst2 ST2
      go_wp2_with (refine wpList_storeB (o := 0) (vs := rwArr (rJoin h.u n) yj ds dayj dcyj) (ST3.out.blkAt 1 rfl) (by rfl) 51 _ _ (by rfl) (by rfl) (by rfl) (Nat.le_of_ble_eq_true rfl) Try.infoRefView (by rw [← Array.all_toList]; rfl) ?_)
      intro w9 f_ b_
      have ST4 := Lib.hid (show Sta W O p D [⟨b1, rhZ, 137⟩, ⟨b0, #[.int .i64 (rJoin h.u n).self, .slice yj.aa (rJoin h.u n).act.length yj.ac, .slice yj.pa (rJoin h.u n).pas.length yj.pc, .int .i64 (rJoin h.u n).am, .int .i64 (rJoin h.u n).pm, .slice dayj ds.length dcyj, .slice x.ka h.asked.length x.kc], 137⟩] [⟨146, 3, .slice none 0 0, 0, []⟩] (rrows (rJoin h.u n) yj ds dayj dcyj (rhrows h ds x [])) w9 from ST3.out.store 1 rfl f_ b_)
      clear ST3 f_ b_
      go_upto_region 11 with fail
      refine wp_region_lit ?_
      refine wpList_load_mid (by rfl) 137 _ (by rfl) b0 0 (by rfl) (Array.toList (#[.int .i64 (rJoin h.u n).self, .slice yj.aa (rJoin h.u n).act.length yj.ac, .slice yj.pa (rJoin h.u n).pas.length yj.pc, .int .i64 (rJoin h.u n).am, .int .i64 (rJoin h.u n).pm, .slice dayj ds.length dcyj, .slice x.ka h.asked.length x.kc])) _ (blk_range (ST4.out.blkAt 1 rfl)) Try.underlying137 rfl Try.infoRefHand ?_
      go_wp2_with (refine wpList_storeW (vs := #[.int .i64 (rJoin h.u n).self, .slice yj.aa (rJoin h.u n).act.length yj.ac, .slice yj.pa (rJoin h.u n).pas.length yj.pc, .int .i64 (rJoin h.u n).am, .int .i64 (rJoin h.u n).pm, .slice dayj ds.length dcyj, .slice x.ka h.asked.length x.kc]) (ST4.out.blkAt 0 rfl) (by rfl) 137 _ _ (by rfl) (by rfl) (by rfl) rfl Try.infoRefHand (by rw [← Array.all_toList]; rfl) ?_)
      intro wz f_ b_
      have ST5 := Lib.hid (show Sta W O p D [⟨b1, #[.int .i64 (rJoin h.u n).self, .slice yj.aa (rJoin h.u n).act.length yj.ac, .slice yj.pa (rJoin h.u n).pas.length yj.pc, .int .i64 (rJoin h.u n).am, .int .i64 (rJoin h.u n).pm, .slice dayj ds.length dcyj, .slice x.ka h.asked.length x.kc], 137⟩, ⟨b0, #[.int .i64 (rJoin h.u n).self, .slice yj.aa (rJoin h.u n).act.length yj.ac, .slice yj.pa (rJoin h.u n).pas.length yj.pc, .int .i64 (rJoin h.u n).am, .int .i64 (rJoin h.u n).pm, .slice dayj ds.length dcyj, .slice x.ka h.asked.length x.kc], 137⟩] [⟨146, 3, .slice none 0 0, 0, []⟩] (rrows (rJoin h.u n) yj ds dayj dcyj (rhrows h ds x [])) wz from ST4.out.store 0 rfl f_ b_)
      clear ST4 f_ b_
      have LL : Hid ((loadVar 137 ⟨b1, 0, none⟩).run Try.prog wz = .ok (.agg (#[.int .i64 (rJoin h.u n).self, .slice yj.aa (rJoin h.u n).act.length yj.ac, .slice yj.pa (rJoin h.u n).pas.length yj.pc, .int .i64 (rJoin h.u n).am, .int .i64 (rJoin h.u n).pm, .slice dayj ds.length dcyj, .slice x.ka h.asked.length x.kc])) wz) := Lib.hid (run_loadVar_mid wz b1 0 137 (Array.toList (#[.int .i64 (rJoin h.u n).self, .slice yj.aa (rJoin h.u n).act.length yj.ac, .slice yj.pa (rJoin h.u n).pas.length yj.pc, .int .i64 (rJoin h.u n).am, .int .i64 (rJoin h.u n).pm, .slice dayj ds.length dcyj, .slice x.ka h.asked.length x.kc])) _ (blk_range (ST5.out.blkAt 0 rfl)) Try.underlying137 rfl Try.infoRefHand)
      have LA : Hid ((asAddr (.pointer (some ⟨b1, 0, none⟩))).run Try.prog wz = .ok ⟨b1, 0, none⟩ wz) := Lib.hid (by simp [go_sem])
      go_wp2_with fail
      refine bodyPost_ret (v := .tuple #[.agg (#[.int .i64 (rJoin h.u n).self, .slice yj.aa (rJoin h.u n).act.length yj.ac, .slice yj.pa (rJoin h.u n).pas.length yj.pc, .int .i64 (rJoin h.u n).am, .int .i64 (rJoin h.u n).pm, .slice dayj ds.length dcyj, .slice x.ka h.asked.length x.kc]), .slice none 0 0]) (by simp [results, Try.results98, Sem.run_bind, Result.andThen_ok, LL.out, LA.out]) rfl ?_
      exact ⟨⟨yj, dayj, dcyj, x.ka, x.kc⟩, _, rfl, ST5.out.out (List.Sublist.refl _) (inC (at_ 0 rfl) (inC (at_ 1 rfl) (inC (at_ 2 rfl) (inC (at_ 6 rfl) inN))))⟩

set_option maxHeartbeats 4000000 in
set_option maxRecDepth 100000 in
theorem refAsk11_any (h : Rh) (ds : List Int) (x : RhP) (n : Int) (high : Bool) (p : Value) (D : List Int) (O : Nat → Prop) (W : World) (hs : Sta W O p D [] [] (rhrows h ds x []) W) (hk : RhOk h ds) :
    Calls Try.prog 63 #[.agg (h.arr ds x), .int .i64 n, .bool high] W (REnd W O p D (rhAsk h n high).1 ds (rhAsk h n high).2 (fun a ov => .tuple #[.agg a, ov])) := by
  obtain ⟨h', o, hh⟩ : ∃ h' o, rhAsk h n high = (h', o) := ⟨_, _, rfl⟩
  rw [hh]
  simp only
  have HH := Lib.hid hh
  have HK := Lib.hid hk
  have CH := Lib.hid (fun w (h1 : SlA w x.y.aa h.u.act.length x.y.ac (ints h.u.act)) => refHas_any x.y.aa x.y.ac h.u.act n w h1)
  have CK := Lib.hid (fun w (h1 : SlA w x.ka h.asked.length x.kc (ints h.asked)) => refHas_any x.ka x.kc h.asked n w h1)
  obtain ⟨N, hN⟩ : ∃ N, N = rhAskNo h n := ⟨_, rfl⟩
  have HNN := Lib.hid hN
  clear hh hk hN
  obtain ⟨w1, hw1⟩ : ∃ w1, w1 = (W.alloc (.cells (h.arr ds x) 137)).alloc (.cells rhZ 137) := ⟨_, rfl⟩
  obtain ⟨b0, hb0⟩ : ∃ b, b = W.heap.size := ⟨_, rfl⟩
  obtain ⟨b1, hb1⟩ : ∃ b, b = W.heap.size + 1 := ⟨_, rfl⟩
  have ST1 := Lib.hid (show Sta W O p D [⟨b1, rhZ, 137⟩, ⟨b0, h.arr ds x, 137⟩] [] (rhrows h ds x []) w1 by rw [hw1]; exact (hs.box _ _ hb0).box _ _ (by rw [World.size_alloc]; exact hb1))
  have HW1 := Lib.hid hw1
  have HB0 := Lib.hid hb0
  have HB1 := Lib.hid hb1
  clear hw1 hb0 hb1 hs
  have l10 := (ST1.out.rowAt 0 rfl).le
  have l11 := (ST1.out.rowAt 0 rfl).max
  have l16 := (ST1.out.rowAt 3 rfl).le
  have l17 := (ST1.out.rowAt 3 rfl).max
  go_enter Try.func63, Try.ntmps63
  go_upto_region 1 with fail
  rw [← HW1.out, ← HB1.out, ← HB0.out]
  clear HW1 HB0 HB1
  go_cut [39] from 8 to 38 (fun a wx => a = .bool N ∧ w1 = wx)
  case first =>
    have y0 : w1.cell? ⟨b0, 0, none⟩ = some (.int .i64 h.u.self) := ST1.out.cell 1 0 rfl rfl
    have y1 : w1.cell? ⟨b0, 1, none⟩ = some (.slice x.y.aa h.u.act.length x.y.ac) := ST1.out.cell 1 1 rfl rfl
    have y6 : w1.cell? ⟨b0, 6, none⟩ = some (.slice x.ka h.asked.length x.kc) := ST1.out.cell 1 6 rfl rfl
    by_cases h1 : n < 1
    · have d1 : decide (n < 1) = true := decide_eq_true h1
      have hn : Hid (N = true) := Lib.hid (by rw [HNN.out]; unfold rhAskNo; rw [d1]; simp)
      go_wp2_with fail
      go_meet
      exact ⟨by rw [hn.out], rfl⟩
    · have d1 : decide (n < 1) = false := decide_eq_false h1
      by_cases h2 : 65535 < n
      · have d2 : decide (65535 < n) = true := decide_eq_true h2
        have hn : Hid (N = true) := Lib.hid (by rw [HNN.out]; unfold rhAskNo; rw [d1, d2]; simp)
        go_wp2_with fail
        go_meet
        exact ⟨by rw [hn.out], rfl⟩
      · have d2 : decide (65535 < n) = false := decide_eq_false h2
        cases e0 : (n == h.u.self)
        case true =>
          have hn : Hid (N = true) := Lib.hid (by rw [HNN.out]; unfold rhAskNo; rw [d1, d2, e0]; simp)
          go_wp2_with fail
          go_meet
          exact ⟨by rw [hn.out], rfl⟩
        case false =>
          go_wp2_with fail
          refine (CH.out _ (ST1.out.rowAt 0 rfl)).mono ?_
          rintro e _ ⟨rfl, rfl⟩
          cases e1 : has h.u.act n
          case true =>
            have hn : Hid (N = true) := Lib.hid (by rw [HNN.out]; unfold rhAskNo; rw [d1, d2, e0, e1]; simp)
            go_wp2_with fail
            go_meet
            exact ⟨by rw [hn.out], rfl⟩
          case false =>
            go_wp2_with fail
            refine (CK.out _ (ST1.out.rowAt 3 rfl)).mono ?_
            rintro e _ ⟨rfl, rfl⟩
            cases e2 : has h.asked n
            case true =>
              have hn : Hid (N = true) := Lib.hid (by rw [HNN.out]; unfold rhAskNo; rw [d1, d2, e0, e1, e2]; simp)
              go_wp2_with fail
              go_meet
              exact ⟨by rw [hn.out], rfl⟩
            case false =>
              by_cases h3 : 64 ≤ h.asked.length
              · have d3 : decide (64 ≤ (h.asked.length : Int)) = true := decide_eq_true (by omega)
                have hn : Hid (N = true) := Lib.hid (by rw [HNN.out]; unfold rhAskNo; rw [d1, d2, e0, e1, e2, d3]; simp)
                go_wp2_with fail
                go_meet
                exact ⟨by rw [hn.out], rfl⟩
              · have d3 : decide (64 ≤ (h.asked.length : Int)) = false := decide_eq_false (by omega)
                have hn : Hid (N = false) := Lib.hid (by rw [HNN.out]; unfold rhAskNo; rw [d1, d2, e0, e1, e2, d3]; rfl)
                go_wp2_with fail
                go_meet
                exact ⟨by rw [hn.out], rfl⟩
  case rest =>
    obtain ⟨rfl, rfl⟩ := hcut
    cases N
    case true =>
      obtain ⟨rfl, rfl⟩ : h = h' ∧ [] = o := by
        have hh := HH.out
        rw [show rhAsk h n high = (h, []) by unfold rhAsk; rw [← HNN.out, if_pos rfl]] at hh
        injection hh with a b
        exact ⟨a, b⟩
      clear HH HNN CH CK
      go_upto_region 2 with fail
      refine wp_region_lit ?_
      refine wpList_load_mid (by rfl) 137 _ (by rfl) b0 0 (by rfl) (Array.toList (h.arr ds x)) _ (blk_range (ST1.out.blkAt 1 rfl)) Try.underlying137 rfl Try.infoRefHand ?_
      go_wp2_with (refine wpList_storeW (vs := h.arr ds x) (ST1.out.blkAt 0 rfl) (by rfl) 137 _ _ (by rfl) (by rfl) (by rfl) rfl Try.infoRefHand (by rw [← Array.all_toList]; rfl) ?_)
      intro w9 f_ b_
      have ST2 := Lib.hid (show Sta W O p D [⟨b1, h.arr ds x, 137⟩, ⟨b0, h.arr ds x, 137⟩] [] (rhrows h ds x []) w9 from ST1.out.store 0 rfl f_ b_)
      clear ST1 f_ b_
      have LL : Hid ((loadVar 137 ⟨b1, 0, none⟩).run Try.prog w9 = .ok (.agg (h.arr ds x)) w9) := Lib.hid (run_loadVar_mid w9 b1 0 137 (Array.toList (h.arr ds x)) _ (blk_range (ST2.out.blkAt 0 rfl)) Try.underlying137 rfl Try.infoRefHand)
      have LA : Hid ((asAddr (.pointer (some ⟨b1, 0, none⟩))).run Try.prog w9 = .ok ⟨b1, 0, none⟩ w9) := Lib.hid (by simp [go_sem])
      go_wp2_with fail
      refine bodyPost_ret (v := .tuple #[.agg (h.arr ds x), .slice none 0 0]) (by simp [results, Try.results63, Sem.run_bind, Result.andThen_ok, LL.out, LA.out]) rfl ?_
      exact ⟨x, _, rfl, (ST2.out.ownNil 146 3).out (List.Sublist.refl _) (inC (at_ 0 rfl) (inC (at_ 1 rfl) (inC (at_ 2 rfl) (inC (at_ 3 rfl) inN))))⟩
    case false =>
      obtain ⟨A, hA⟩ : ∃ A, A = h.asked ++ [n] := ⟨_, rfl⟩
      obtain ⟨rfl, rfl⟩ : (⟨h.u, A⟩ : Rh) = h' ∧ [⟨n, 3, high⟩] = o := by
        have hh := HH.out
        rw [show rhAsk h n high = ((⟨h.u, A⟩ : Rh), [⟨n, 3, high⟩]) by unfold rhAsk; rw [← HNN.out, if_neg (by decide), hA]] at hh
        injection hh with a b
        exact ⟨a, b⟩
      clear HH HNN CH CK
      have HA := Lib.hid hA
      clear hA
      have y6 : w1.cell? ⟨b0, 6, none⟩ = some (.slice x.ka h.asked.length x.kc) := ST1.out.cell 1 6 rfl rfl
      have hlt : b0 < w1.heap.size := lt_heap (ST1.out.blkAt 1 rfl)
      go_upto_region 3 with fail
      go_wp2_with (at_builtin; obtain ⟨w2, hw_⟩ : ∃ x, x = w1.alloc (.cells #[] 3) := ⟨_, rfl⟩; obtain ⟨e0, he_⟩ : ∃ b, b = w1.heap.size := ⟨_, rfl⟩; rw [← hw_, ← he_]; have ST2 := Lib.hid (show Sta W O p D [⟨b1, rhZ, 137⟩, ⟨b0, h.arr ds x, 137⟩] [⟨3, 1, .slice (some ⟨e0, 0, none⟩) 0 0, 0, []⟩] (rhrows h ds x []) w2 from hw_ ▸ ST1.out.ownNew ((Fr.refl _ _).alloc _) (xs := []) (n := 0) (by rw [heap_alloc_if, if_pos he_]) (Nat.le_of_eq he_.symm) rfl (by decide)); clear ST1 hw_ he_ y6 hlt; refine wpList_growI (by rfl) _ _ (by rfl) ST2.out 0 rfl (ST2.out.rowAt 3 rfl) (by rfl) (by rfl) (by have := HK.out.asked; omega) ?_)
      intro v3 w3 hst
      have ST3 := Lib.hid (show Sta W O p D [⟨b1, rhZ, 137⟩, ⟨b0, h.arr ds x, 137⟩] [⟨3, 1, v3, h.asked.length, ints h.asked⟩] (rhrows h ds x []) w3 from hst)
      clear hst ST2
      go_wp2_with (at_builtin; obtain ⟨w4, hw_⟩ : ∃ x, x = w3.alloc (.cells #[.int .i64 n] 3) := ⟨_, rfl⟩; obtain ⟨e1, he_⟩ : ∃ b, b = w3.heap.size := ⟨_, rfl⟩; rw [← hw_, ← he_]; have ST4 := Lib.hid (show Sta W O p D [⟨b1, rhZ, 137⟩, ⟨b0, h.arr ds x, 137⟩] [⟨3, 1, .slice (some ⟨e1, 0, none⟩) 1 1, 1, [.int .i64 n]⟩, ⟨3, 1, v3, h.asked.length, ints h.asked⟩] (rhrows h ds x []) w4 from hw_ ▸ ST3.out.ownNew ((Fr.refl _ _).alloc _) (xs := [.int .i64 n]) (n := 1) (by rw [heap_alloc_if, if_pos he_]) (Nat.le_of_eq he_.symm) rfl (by decide)); clear ST3 hw_ he_; refine wpList_growT (by rfl) _ _ 22 3 1 8 (.int .i64 0) Try.underlying22 Try.infoint rfl (by decide) (by decide) (by rfl) ST4.out 1 rfl (by rfl) (by rfl) (own_add (ST4.out.ownAt 0 rfl)) (by rfl) (by rfl) (by have := HK.out.asked; omega) ?_)
      intro v5 w5 hst
      have ST5 := Lib.hid (show Sta W O p D [⟨b1, rhZ, 137⟩, ⟨b0, h.arr ds x, 137⟩] [⟨3, 1, .slice (some ⟨e1, 0, none⟩) 1 1, 1, [.int .i64 n]⟩, ⟨3, 1, v5, h.asked.length + 1, ints h.asked ++ [.int .i64 n]⟩] (rhrows h ds x []) w5 from hst)
      clear hst ST4
      obtain ⟨ra, rc, rfl, hst⟩ := ST5.out.asRow 1 rfl
      have hrr : h.asked.length + 1 = A.length ∧ ints h.asked ++ [Value.int .i64 n] = ints A := by rw [HA.out]; constructor <;> simp
      rw [hrr.1, hrr.2] at hst
      rw [hrr.1]
      have ST6 := Lib.hid (show Sta W O p D [⟨b1, rhZ, 137⟩, ⟨b0, h.arr ds x, 137⟩] [⟨3, 1, .slice (some ⟨e1, 0, none⟩) 1 1, 1, [.int .i64 n]⟩] (⟨ra, A.length, rc, ints A⟩ :: rhrows h ds x []) w5 from hst)
      clear hst hrr ST5
      have zf : w5.frozen? ⟨b0, 6, none⟩ = false := ST6.out.froz 1 6 rfl
      have y6 : w5.cell? ⟨b0, 6, none⟩ = some (.slice x.ka h.asked.length x.kc) := ST6.out.cell 1 6 rfl rfl
      go_upto_region 4 with fail
      obtain ⟨w6, hw_⟩ : ∃ x, x = w5.setCell ⟨b0, 6, none⟩ (.slice ra A.length rc) := ⟨_, rfl⟩
      rw [← hw_]
      have ST7 := Lib.hid (show Sta W O p D [⟨b1, rhZ, 137⟩, ⟨b0, #[.int .i64 h.u.self, .slice x.y.aa h.u.act.length x.y.ac, .slice x.y.pa h.u.pas.length x.y.pc, .int .i64 h.u.am, .int .i64 h.u.pm, .slice x.da ds.length x.dc, .slice ra A.length rc], 137⟩] [⟨3, 1, .slice (some ⟨e1, 0, none⟩) 1 1, 1, [.int .i64 n]⟩] (⟨ra, A.length, rc, ints A⟩ :: rhrows h ds x []) w6 from hw_ ▸ ST6.out.setC 1 rfl 6 (.slice ra A.length rc) (Nat.le_of_ble_eq_true rfl))
      clear ST6 hw_
      clear zf y6
      refine wp_region_lit ?_
      refine wpList_load_mid (by rfl) 137 _ (by rfl) b0 0 (by rfl) (Array.toList (#[.int .i64 h.u.self, .slice x.y.aa h.u.act.length x.y.ac, .slice x.y.pa h.u.pas.length x.y.pc, .int .i64 h.u.am, .int .i64 h.u.pm, .slice x.da ds.length x.dc, .slice ra A.length rc])) _ (blk_range (ST7.out.blkAt 1 rfl)) Try.underlying137 rfl Try.infoRefHand ?_
      go_wp2_with (refine wpList_bldRO (i0 := n) (i1 := 3) (b := high) (by rfl) (by rfl) (by rfl) ?_; refine wpList_bldROs (by rfl) ?_; obtain ⟨w7, hw_⟩ : ∃ x, x = w6.alloc (.cells (#[.int .i64 n, .int .i64 3, .bool high]) 146) := ⟨_, rfl⟩; obtain ⟨ob, hob_⟩ : ∃ b, b = w6.heap.size := ⟨_, rfl⟩; rw [← hw_, ← hob_]; have ST8 := Lib.hid (show Sta W O p D [⟨b1, rhZ, 137⟩, ⟨b0, #[.int .i64 h.u.self, .slice x.y.aa h.u.act.length x.y.ac, .slice x.y.pa h.u.pas.length x.y.pc, .int .i64 h.u.am, .int .i64 h.u.pm, .slice x.da ds.length x.dc, .slice ra A.length rc], 137⟩] [⟨146, 3, .slice (some ⟨ob, 0, none⟩) 1 1, 1, Ho.rcells ⟨n, 3, high⟩⟩, ⟨3, 1, .slice (some ⟨e1, 0, none⟩) 1 1, 1, [.int .i64 n]⟩] (⟨ra, A.length, rc, ints A⟩ :: rhrows h ds x []) w7 from hw_ ▸ ST7.out.ownNew ((Fr.refl _ _).alloc _) (xs := Ho.rcells ⟨n, 3, high⟩) (n := 1) (by rw [heap_alloc_if, if_pos hob_]; rfl) (Nat.le_of_eq hob_.symm) rfl (by decide)); clear ST7 hw_ hob_; refine wpList_storeW (vs := #[.int .i64 h.u.self, .slice x.y.aa h.u.act.length x.y.ac, .slice x.y.pa h.u.pas.length x.y.pc, .int .i64 h.u.am, .int .i64 h.u.pm, .slice x.da ds.length x.dc, .slice ra A.length rc]) (ST8.out.blkAt 0 rfl) (by rfl) 137 _ _ (by rfl) (by rfl) (by rfl) rfl Try.infoRefHand (by rw [← Array.all_toList]; rfl) ?_)
      intro w8 f_ b_
      have ST9 := Lib.hid (show Sta W O p D [⟨b1, #[.int .i64 h.u.self, .slice x.y.aa h.u.act.length x.y.ac, .slice x.y.pa h.u.pas.length x.y.pc, .int .i64 h.u.am, .int .i64 h.u.pm, .slice x.da ds.length x.dc, .slice ra A.length rc], 137⟩, ⟨b0, #[.int .i64 h.u.self, .slice x.y.aa h.u.act.length x.y.ac, .slice x.y.pa h.u.pas.length x.y.pc, .int .i64 h.u.am, .int .i64 h.u.pm, .slice x.da ds.length x.dc, .slice ra A.length rc], 137⟩] [⟨146, 3, .slice (some ⟨ob, 0, none⟩) 1 1, 1, Ho.rcells ⟨n, 3, high⟩⟩, ⟨3, 1, .slice (some ⟨e1, 0, none⟩) 1 1, 1, [.int .i64 n]⟩] (⟨ra, A.length, rc, ints A⟩ :: rhrows h ds x []) w8 from ST8.out.store 0 rfl f_ b_)
      clear ST8 f_ b_
      have LL : Hid ((loadVar 137 ⟨b1, 0, none⟩).run Try.prog w8 = .ok (.agg (#[.int .i64 h.u.self, .slice x.y.aa h.u.act.length x.y.ac, .slice x.y.pa h.u.pas.length x.y.pc, .int .i64 h.u.am, .int .i64 h.u.pm, .slice x.da ds.length x.dc, .slice ra A.length rc])) w8) := Lib.hid (run_loadVar_mid w8 b1 0 137 (Array.toList (#[.int .i64 h.u.self, .slice x.y.aa h.u.act.length x.y.ac, .slice x.y.pa h.u.pas.length x.y.pc, .int .i64 h.u.am, .int .i64 h.u.pm, .slice x.da ds.length x.dc, .slice ra A.length rc])) _ (blk_range (ST9.out.blkAt 0 rfl)) Try.underlying137 rfl Try.infoRefHand)
      have LA : Hid ((asAddr (.pointer (some ⟨b1, 0, none⟩))).run Try.prog w8 = .ok ⟨b1, 0, none⟩ w8) := Lib.hid (by simp [go_sem])
      go_wp2_with fail
      refine bodyPost_ret (v := .tuple #[.agg (#[.int .i64 h.u.self, .slice x.y.aa h.u.act.length x.y.ac, .slice x.y.pa h.u.pas.length x.y.pc, .int .i64 h.u.am, .int .i64 h.u.pm, .slice x.da ds.length x.dc, .slice ra A.length rc]), .slice (some ⟨ob, 0, none⟩) 1 1]) (by simp [results, Try.results63, Sem.run_bind, Result.andThen_ok, LL.out, LA.out]) rfl ?_
      exact ⟨⟨x.y, x.da, x.dc, ra, rc⟩, _, rfl, ST9.out.out (List.Sublist.cons_cons _ (List.nil_sublist _)) (inC (at_ 1 rfl) (inC (at_ 2 rfl) (inC (at_ 3 rfl) (inC (at_ 0 rfl) inN))))⟩

set_option maxHeartbeats 4000000 in
set_option maxRecDepth 100000 in
theorem refOnNo11_any (h : Rh) (ds : List Int) (x : RhP) (n : Int) (p : Value) (D : List Int) (O : Nat → Prop) (W : World) (hs : Sta W O p D [] [] (rhrows h ds x []) W) (hk : RhOk h ds) :
    Calls Try.prog 65 #[.agg (h.arr ds x), .int .i64 n] W (REnd W O p D (rhOnNo h n ds).1 (rhOnNo h n ds).2.2 (rhOnNo h n ds).2.1 (fun a ov => .tuple #[.agg a, ov])) := by
  obtain ⟨h', o, dn, hh⟩ : ∃ h' o dn, rhOnNo h n ds = (h', o, dn) := ⟨_, _, _, rfl⟩
  rw [hh]
  simp only
  have HH := Lib.hid hh
  have HK := Lib.hid hk
  have CH := Lib.hid (fun w (h1 : SlA w x.y.aa h.u.act.length x.y.ac (ints h.u.act)) => refHas_any x.y.aa x.y.ac h.u.act n w h1)
  have CD := Lib.hid (fun w (h1 : SlA w x.ka h.asked.length x.kc (ints h.asked)) => refDrop11_any x.ka x.kc h.asked n w h1 (by have := HK.out.asked; omega))
  have CB := Lib.hid (fun x O w (h1 : Sta w O p D [] [] (rhrows ⟨h.u, rDrop h.asked n⟩ ds x []) w) => refOnBye11_any ⟨h.u, rDrop h.asked n⟩ ds x n p D O w h1 ⟨HK.out.act, HK.out.pas, HK.out.pm, Nat.le_trans (rDrop_len _ _) HK.out.asked, HK.out.dr⟩)
  clear hh hk
  obtain ⟨w1, hw1⟩ : ∃ w1, w1 = (W.alloc (.cells (h.arr ds x) 137)).alloc (.cells rhZ 137) := ⟨_, rfl⟩
  obtain ⟨b0, hb0⟩ : ∃ b, b = W.heap.size := ⟨_, rfl⟩
  obtain ⟨b1, hb1⟩ : ∃ b, b = W.heap.size + 1 := ⟨_, rfl⟩
  have ST1 := Lib.hid (show Sta W O p D [⟨b1, rhZ, 137⟩, ⟨b0, h.arr ds x, 137⟩] [] (rhrows h ds x []) w1 by rw [hw1]; exact (hs.box _ _ hb0).box _ _ (by rw [World.size_alloc]; exact hb1))
  have HW1 := Lib.hid hw1
  have HB0 := Lib.hid hb0
  have HB1 := Lib.hid hb1
  clear hw1 hb0 hb1 hs
  have l10 := (ST1.out.rowAt 0 rfl).le
  have l11 := (ST1.out.rowAt 0 rfl).max
  have l16 := (ST1.out.rowAt 3 rfl).le
  have l17 := (ST1.out.rowAt 3 rfl).max
  go_enter Try.func65, Try.ntmps65
  go_upto_region 1 with fail
  rw [← HW1.out, ← HB1.out, ← HB0.out]
  clear HW1 HB0 HB1
  have y6 : w1.cell? ⟨b0, 6, none⟩ = some (.slice x.ka h.asked.length x.kc) := ST1.out.cell 1 6 rfl rfl
  have zf : w1.frozen? ⟨b0, 6, none⟩ = false := ST1.out.froz 1 6 rfl
  go_upto_region 1 with fail
  go_wp2_with fail
  refine (CD.out _ (ST1.out.rowAt 3 rfl)).mono ?_
  intro e w2 hst
  obtain ⟨kd, cd, rfl, hst2⟩ := ST1.out.callI hst
  have ST2 := Lib.hid (show Sta W O p D [⟨b1, rhZ, 137⟩, ⟨b0, h.arr ds x, 137⟩] [] (⟨kd, (rDrop h.asked n).length, cd, ints (rDrop h.asked n)⟩ :: rhrows h ds x []) w2 from hst2)
  clear hst hst2 ST1 y6 zf CD
  have zf : w2.frozen? ⟨b0, 6, none⟩ = false := ST2.out.froz 1 6 rfl
  have y6 : w2.cell? ⟨b0, 6, none⟩ = some (.slice x.ka h.asked.length x.kc) := ST2.out.cell 1 6 rfl rfl
  go_upto_region 2 with fail
  obtain ⟨w3, hw_⟩ : ∃ x, x = w2.setCell ⟨b0, 6, none⟩ (.slice kd (rDrop h.asked n).length cd) := ⟨_, rfl⟩
  rw [← hw_]
  have ST3 := Lib.hid (show Sta W O p D [⟨b1, rhZ, 137⟩, ⟨b0, #[.int .i64 h.u.self, .slice x.y.aa h.u.act.length x.y.ac, .slice x.y.pa h.u.pas.length x.y.pc, .int .i64 h.u.am, .int .i64 h.u.pm, .slice x.da ds.length x.dc, .slice kd (rDrop h.asked n).length cd], 137⟩] [] (⟨kd, (rDrop h.asked n).length, cd, ints (rDrop h.asked n)⟩ :: rhrows h ds x []) w3 from hw_ ▸ ST2.out.setC 1 rfl 6 (.slice kd (rDrop h.asked n).length cd) (Nat.le_of_ble_eq_true rfl))
  clear ST2 hw_
  clear zf y6
  have y1 : w3.cell? ⟨b0, 1, none⟩ = some (.slice x.y.aa h.u.act.length x.y.ac) := ST3.out.cell 1 1 rfl rfl
  go_wp2_with fail
  refine (CH.out _ (ST3.out.rowAt 1 rfl)).mono ?_
  rintro e _ ⟨rfl, rfl⟩
  clear y1 CH
  cases e1 : has h.u.act n
  case false =>
    obtain ⟨rfl, rfl, rfl⟩ : (⟨h.u, rDrop h.asked n⟩ : Rh) = h' ∧ [] = o ∧ ds = dn := by
      have hh := HH.out
      rw [show rhOnNo h n ds = ((⟨h.u, rDrop h.asked n⟩ : Rh), [], ds) by unfold rhOnNo; rw [e1, if_neg (by decide)]] at hh
      injection hh with a b
      injection b with b c
      exact ⟨a, b, c⟩
    clear HH e1 CB
    go_upto_region 3 with fail
    refine wp_region_lit ?_
    refine wpList_load_mid (by rfl) 137 _ (by rfl) b0 0 (by rfl) (Array.toList (#[.int .i64 h.u.self, .slice x.y.aa h.u.act.length x.y.ac, .slice x.y.pa h.u.pas.length x.y.pc, .int .i64 h.u.am, .int .i64 h.u.pm, .slice x.da ds.length x.dc, .slice kd (rDrop h.asked n).length cd])) _ (blk_range (ST3.out.blkAt 1 rfl)) Try.underlying137 rfl Try.infoRefHand ?_
    go_wp2_with (refine wpList_storeW (vs := #[.int .i64 h.u.self, .slice x.y.aa h.u.act.length x.y.ac, .slice x.y.pa h.u.pas.length x.y.pc, .int .i64 h.u.am, .int .i64 h.u.pm, .slice x.da ds.length x.dc, .slice kd (rDrop h.asked n).length cd]) (ST3.out.blkAt 0 rfl) (by rfl) 137 _ _ (by rfl) (by rfl) (by rfl) rfl Try.infoRefHand (by rw [← Array.all_toList]; rfl) ?_)
    intro w9 f_ b_
    have ST4 := Lib.hid (show Sta W O p D [⟨b1, #[.int .i64 h.u.self, .slice x.y.aa h.u.act.length x.y.ac, .slice x.y.pa h.u.pas.length x.y.pc, .int .i64 h.u.am, .int .i64 h.u.pm, .slice x.da ds.length x.dc, .slice kd (rDrop h.asked n).length cd], 137⟩, ⟨b0, #[.int .i64 h.u.self, .slice x.y.aa h.u.act.length x.y.ac, .slice x.y.pa h.u.pas.length x.y.pc, .int .i64 h.u.am, .int .i64 h.u.pm, .slice x.da ds.length x.dc, .slice kd (rDrop h.asked n).length cd], 137⟩] [] (⟨kd, (rDrop h.asked n).length, cd, ints (rDrop h.asked n)⟩ :: rhrows h ds x []) w9 from ST3.out.store 0 rfl f_ b_)
    clear ST3 f_ b_
    have LL : Hid ((loadVar 137 ⟨b1, 0, none⟩).run Try.prog w9 = .ok (.agg (#[.int .i64 h.u.self, .slice x.y.aa h.u.act.length x.y.ac, .slice x.y.pa h.u.pas.length x.y.pc, .int .i64 h.u.am, .int .i64 h.u.pm, .slice x.da ds.length x.dc, .slice kd (rDrop h.asked n).length cd])) w9) := Lib.hid (run_loadVar_mid w9 b1 0 137 (Array.toList (#[.int .i64 h.u.self, .slice x.y.aa h.u.act.length x.y.ac, .slice x.y.pa h.u.pas.length x.y.pc, .int .i64 h.u.am, .int .i64 h.u.pm, .slice x.da ds.length x.dc, .slice kd (rDrop h.asked n).length cd])) _ (blk_range (ST4.out.blkAt 0 rfl)) Try.underlying137 rfl Try.infoRefHand)
    have LA : Hid ((asAddr (.pointer (some ⟨b1, 0, none⟩))).run Try.prog w9 = .ok ⟨b1, 0, none⟩ w9) := Lib.hid (by simp [go_sem])
    go_wp2_with fail
    refine bodyPost_ret (v := .tuple #[.agg (#[.int .i64 h.u.self, .slice x.y.aa h.u.act.length x.y.ac, .slice x.y.pa h.u.pas.length x.y.pc, .int .i64 h.u.am, .int .i64 h.u.pm, .slice x.da ds.length x.dc, .slice kd (rDrop h.asked n).length cd]), .slice none 0 0]) (by simp [results, Try.results65, Sem.run_bind, Result.andThen_ok, LL.out, LA.out]) rfl ?_
    exact ⟨(⟨x.y, x.da, x.dc, kd, cd⟩ : RhP), _, rfl, (ST4.out.ownNil 146 3).out (List.Sublist.refl _) (inC (at_ 1 rfl) (inC (at_ 2 rfl) (inC (at_ 3 rfl) (inC (at_ 0 rfl) inN))))⟩
  case true =>
    obtain ⟨hb, db, hhb⟩ : ∃ a b, rhOnBye ⟨h.u, rDrop h.asked n⟩ n ds = (a, b) := ⟨_, _, rfl⟩
    obtain ⟨rfl, rfl, rfl⟩ : hb = h' ∧ [⟨n, 6, false⟩] = o ∧ db = dn := by
      have hh := HH.out
      rw [show rhOnNo h n ds = (hb, [⟨n, 6, false⟩], db) by unfold rhOnNo; rw [e1, if_pos rfl, hhb]] at hh
      injection hh with a b
      injection b with b c
      exact ⟨a, b, c⟩
    clear HH e1
    rw [hhb] at CB
    simp only at CB
    clear hhb
    go_upto_region 4 with fail
    refine wp_region_lit ?_
    refine wpList_load_mid (by rfl) 137 _ (by rfl) b0 0 (by rfl) (Array.toList (#[.int .i64 h.u.self, .slice x.y.aa h.u.act.length x.y.ac, .slice x.y.pa h.u.pas.length x.y.pc, .int .i64 h.u.am, .int .i64 h.u.pm, .slice x.da ds.length x.dc, .slice kd (rDrop h.asked n).length cd])) _ (blk_range (ST3.out.blkAt 1 rfl)) Try.underlying137 rfl Try.infoRefHand ?_
    go_wp2_with fail
    refine (CB.out (⟨x.y, x.da, x.dc, kd, cd⟩ : RhP) _ _ (ST3.out.enter (rhrows (⟨h.u, rDrop h.asked n⟩ : Rh) ds (⟨x.y, x.da, x.dc, kd, cd⟩ : RhP) []) (inC (at_ 1 rfl) (inC (at_ 2 rfl) (inC (at_ 3 rfl) (inC (at_ 0 rfl) inN)))))).mono ?_
    intro e w5 hst
    obtain ⟨xb, rfl, hst2⟩ := hst
    have ST4 := Lib.hid (show Sta W O p D [⟨b1, rhZ, 137⟩, ⟨b0, #[.int .i64 h.u.self, .slice x.y.aa h.u.act.length x.y.ac, .slice x.y.pa h.u.pas.length x.y.pc, .int .i64 h.u.am, .int .i64 h.u.pm, .slice x.da ds.length x.dc, .slice kd (rDrop h.asked n).length cd], 137⟩] [] (rhrows hb db xb (⟨kd, (rDrop h.asked n).length, cd, ints (rDrop h.asked n)⟩ :: rhrows h ds x [])) w5 from ST3.out.leave (inC (at_ 1 rfl) (inC (at_ 2 rfl) (inC (at_ 3 rfl) (inC (at_ 0 rfl) inN)))) hst2)
    clear hst2 ST3
    go_wp2_with (refine wpList_bldRO (i0 := n) (i1 := 6) (b := false) (by rfl) (by rfl) (by rfl) ?_; refine wpList_bldROs (by rfl) ?_; obtain ⟨wa, hw_⟩ : ∃ x, x = w5.alloc (.cells (#[.int .i64 n, .int .i64 6, .bool false]) 146) := ⟨_, rfl⟩; obtain ⟨ob, hob_⟩ : ∃ b, b = w5.heap.size := ⟨_, rfl⟩; rw [← hw_, ← hob_]; have ST5 := Lib.hid (show Sta W O p D [⟨b1, rhZ, 137⟩, ⟨b0, #[.int .i64 h.u.self, .slice x.y.aa h.u.act.length x.y.ac, .slice x.y.pa h.u.pas.length x.y.pc, .int .i64 h.u.am, .int .i64 h.u.pm, .slice x.da ds.length x.dc, .slice kd (rDrop h.asked n).length cd], 137⟩] [⟨146, 3, .slice (some ⟨ob, 0, none⟩) 1 1, 1, Ho.rcells ⟨n, 6, false⟩⟩] (rhrows hb db xb (⟨kd, (rDrop h.asked n).length, cd, ints (rDrop h.asked n)⟩ :: rhrows h ds x [])) wa from hw_ ▸ ST4.out.ownNew ((Fr.refl _ _).alloc _) (xs := Ho.rcells ⟨n, 6, false⟩) (n := 1) (by rw [heap_alloc_if, if_pos hob_]; rfl) (Nat.le_of_eq hob_.symm) rfl (by decide)); clear ST4 hw_ hob_; refine wpList_storeW (vs := hb.arr db xb) (ST5.out.blkAt 0 rfl) (by rfl) 137 _ _ (by rfl) (by rfl) (by rfl) rfl Try.infoRefHand (by rw [← Array.all_toList]; rfl) ?_)
    intro wb f_ b_
    have ST6 := Lib.hid (show Sta W O p D [⟨b1, hb.arr db xb, 137⟩, ⟨b0, #[.int .i64 h.u.self, .slice x.y.aa h.u.act.length x.y.ac, .slice x.y.pa h.u.pas.length x.y.pc, .int .i64 h.u.am, .int .i64 h.u.pm, .slice x.da ds.length x.dc, .slice kd (rDrop h.asked n).length cd], 137⟩] [⟨146, 3, .slice (some ⟨ob, 0, none⟩) 1 1, 1, Ho.rcells ⟨n, 6, false⟩⟩] (rhrows hb db xb (⟨kd, (rDrop h.asked n).length, cd, ints (rDrop h.asked n)⟩ :: rhrows h ds x [])) wb from ST5.out.store 0 rfl f_ b_)
    clear ST5 f_ b_
    have LL : Hid ((loadVar 137 ⟨b1, 0, none⟩).run Try.prog wb = .ok (.agg (hb.arr db xb)) wb) := Lib.hid (run_loadVar_mid wb b1 0 137 (Array.toList (hb.arr db xb)) _ (blk_range (ST6.out.blkAt 0 rfl)) Try.underlying137 rfl Try.infoRefHand)
    have LA : Hid ((asAddr (.pointer (some ⟨b1, 0, none⟩))).run Try.prog wb = .ok ⟨b1, 0, none⟩ wb) := Lib.hid (by simp [go_sem])
    go_wp2_with fail
    refine bodyPost_ret (v := .tuple #[.agg (hb.arr db xb), .slice (some ⟨ob, 0, none⟩) 1 1]) (by simp [results, Try.results65, Sem.run_bind, Result.andThen_ok, LL.out, LA.out]) rfl ?_
    exact ⟨xb, _, rfl, ST6.out.out (List.Sublist.refl _) (inC (at_ 0 rfl) (inC (at_ 1 rfl) (inC (at_ 2 rfl) (inC (at_ 3 rfl) inN))))⟩

set_option maxHeartbeats 4000000 in
set_option maxRecDepth 100000 in
theorem refOnYes11_any (h : Rh) (ds : List Int) (x : RhP) (n : Int) (p : Value) (D : List Int) (O : Nat → Prop) (W : World) (hs : Sta W O p D [] [] (rhrows h ds x []) W) (hk : RhOk h ds) :
    Calls Try.prog 64 #[.agg (h.arr ds x), .int .i64 n] W (REnd W O p D (rhOnYes h n ds).1 (rhOnYes h n ds).2.2 (rhOnYes h n ds).2.1 (fun a ov => .tuple #[.agg a, ov])) := by
  obtain ⟨h', o, dn, hh⟩ : ∃ h' o dn, rhOnYes h n ds = (h', o, dn) := ⟨_, _, _, rfl⟩
  rw [hh]
  simp only
  have HH := Lib.hid hh
  have HK := Lib.hid hk
  have CH := Lib.hid (fun w (h1 : SlA w x.y.aa h.u.act.length x.y.ac (ints h.u.act)) => refHas_any x.y.aa x.y.ac h.u.act n w h1)
  have CK := Lib.hid (fun w (h1 : SlA w x.ka h.asked.length x.kc (ints h.asked)) => refHas_any x.ka x.kc h.asked n w h1)
  have CD := Lib.hid (fun w (h1 : SlA w x.ka h.asked.length x.kc (ints h.asked)) => refDrop11_any x.ka x.kc h.asked n w h1 (by have := HK.out.asked; omega))
  have CT := Lib.hid (fun x O w (h1 : Sta w O p D [] [] (rhrows ⟨h.u, rDrop h.asked n⟩ ds x []) w) => refTake11_any ⟨h.u, rDrop h.asked n⟩ ds x n p D O w h1 ⟨HK.out.act, HK.out.pas, HK.out.pm, Nat.le_trans (rDrop_len _ _) HK.out.asked, HK.out.dr⟩)
  clear hh hk
  obtain ⟨w1, hw1⟩ : ∃ w1, w1 = (W.alloc (.cells (h.arr ds x) 137)).alloc (.cells rhZ 137) := ⟨_, rfl⟩
  obtain ⟨b0, hb0⟩ : ∃ b, b = W.heap.size := ⟨_, rfl⟩
  obtain ⟨b1, hb1⟩ : ∃ b, b = W.heap.size + 1 := ⟨_, rfl⟩
  have ST1 := Lib.hid (show Sta W O p D [⟨b1, rhZ, 137⟩, ⟨b0, h.arr ds x, 137⟩] [] (rhrows h ds x []) w1 by rw [hw1]; exact (hs.box _ _ hb0).box _ _ (by rw [World.size_alloc]; exact hb1))
  have HW1 := Lib.hid hw1
  have HB0 := Lib.hid hb0
  have HB1 := Lib.hid hb1
  clear hw1 hb0 hb1 hs
  have l10 := (ST1.out.rowAt 0 rfl).le
  have l11 := (ST1.out.rowAt 0 rfl).max
  have l16 := (ST1.out.rowAt 3 rfl).le
  have l17 := (ST1.out.rowAt 3 rfl).max
  go_enter Try.func64, Try.ntmps64
  go_upto_region 1 with fail
  rw [← HW1.out, ← HB1.out, ← HB0.out]
  clear HW1 HB0 HB1
  have y1 : w1.cell? ⟨b0, 1, none⟩ = some (.slice x.y.aa h.u.act.length x.y.ac) := ST1.out.cell 1 1 rfl rfl
  have y3 : w1.cell? ⟨b0, 3, none⟩ = some (.int .i64 h.u.am) := ST1.out.cell 1 3 rfl rfl
  have y6 : w1.cell? ⟨b0, 6, none⟩ = some (.slice x.ka h.asked.length x.kc) := ST1.out.cell 1 6 rfl rfl
  go_wp2_with fail
  refine (CK.out _ (ST1.out.rowAt 3 rfl)).mono ?_
  rintro e _ ⟨rfl, rfl⟩
  clear y6 CK
  cases e0 : has h.asked n
  case false =>
    go_wp2_with fail
    refine (CH.out _ (ST1.out.rowAt 0 rfl)).mono ?_
    rintro e _ ⟨rfl, rfl⟩
    clear y1 y3 CH
    cases e1 : has h.u.act n
    case true =>
      obtain ⟨rfl, rfl, rfl⟩ : h = h' ∧ [] = o ∧ ds = dn := by
        have hh := HH.out
        rw [show rhOnYes h n ds = (h, [], ds) by unfold rhOnYes; rw [e0, if_neg (by decide), e1, if_pos rfl]] at hh
        injection hh with a b
        injection b with b c
        exact ⟨a, b, c⟩
      clear HH e0 e1 CD CT
      go_upto_region 7 with fail
      refine wp_region_lit ?_
      refine wpList_load_mid (by rfl) 137 _ (by rfl) b0 0 (by rfl) (Array.toList (h.arr ds x)) _ (blk_range (ST1.out.blkAt 1 rfl)) Try.underlying137 rfl Try.infoRefHand ?_
      go_wp2_with (refine wpList_storeW (vs := h.arr ds x) (ST1.out.blkAt 0 rfl) (by rfl) 137 _ _ (by rfl) (by rfl) (by rfl) rfl Try.infoRefHand (by rw [← Array.all_toList]; rfl) ?_)
      intro w9 f_ b_
      have ST2 := Lib.hid (show Sta W O p D [⟨b1, h.arr ds x, 137⟩, ⟨b0, h.arr ds x, 137⟩] [] (rhrows h ds x []) w9 from ST1.out.store 0 rfl f_ b_)
      clear ST1 f_ b_
      have LL : Hid ((loadVar 137 ⟨b1, 0, none⟩).run Try.prog w9 = .ok (.agg (h.arr ds x)) w9) := Lib.hid (run_loadVar_mid w9 b1 0 137 (Array.toList (h.arr ds x)) _ (blk_range (ST2.out.blkAt 0 rfl)) Try.underlying137 rfl Try.infoRefHand)
      have LA : Hid ((asAddr (.pointer (some ⟨b1, 0, none⟩))).run Try.prog w9 = .ok ⟨b1, 0, none⟩ w9) := Lib.hid (by simp [go_sem])
      go_wp2_with fail
      refine bodyPost_ret (v := .tuple #[.agg (h.arr ds x), .slice none 0 0]) (by simp [results, Try.results64, Sem.run_bind, Result.andThen_ok, LL.out, LA.out]) rfl ?_
      exact ⟨x, _, rfl, (ST2.out.ownNil 146 3).out (List.Sublist.refl _) (inC (at_ 0 rfl) (inC (at_ 1 rfl) (inC (at_ 2 rfl) (inC (at_ 3 rfl) inN))))⟩
    case false =>
      obtain ⟨rfl, rfl, rfl⟩ : h = h' ∧ [⟨n, 6, false⟩] = o ∧ ds = dn := by
        have hh := HH.out
        rw [show rhOnYes h n ds = (h, [⟨n, 6, false⟩], ds) by unfold rhOnYes; rw [e0, if_neg (by decide), e1, if_neg (by decide)]] at hh
        injection hh with a b
        injection b with b c
        exact ⟨a, b, c⟩
      clear HH e0 e1 CD CT
      go_upto_region 8 with fail
      refine wp_region_lit ?_
      refine wpList_load_mid (by rfl) 137 _ (by rfl) b0 0 (by rfl) (Array.toList (h.arr ds x)) _ (blk_range (ST1.out.blkAt 1 rfl)) Try.underlying137 rfl Try.infoRefHand ?_
      go_wp2_with (refine wpList_bldRO (i0 := n) (i1 := 6) (b := false) (by rfl) (by rfl) (by rfl) ?_; refine wpList_bldROs (by rfl) ?_; obtain ⟨wa, hw_⟩ : ∃ x, x = w1.alloc (.cells (#[.int .i64 n, .int .i64 6, .bool false]) 146) := ⟨_, rfl⟩; obtain ⟨ob, hob_⟩ : ∃ b, b = w1.heap.size := ⟨_, rfl⟩; rw [← hw_, ← hob_]; have ST2 := Lib.hid (show Sta W O p D [⟨b1, rhZ, 137⟩, ⟨b0, h.arr ds x, 137⟩] [⟨146, 3, .slice (some ⟨ob, 0, none⟩) 1 1, 1, Ho.rcells ⟨n, 6, false⟩⟩] (rhrows h ds x []) wa from hw_ ▸ ST1.out.ownNew ((Fr.refl _ _).alloc _) (xs := Ho.rcells ⟨n, 6, false⟩) (n := 1) (by rw [heap_alloc_if, if_pos hob_]; rfl) (Nat.le_of_eq hob_.symm) rfl (by decide)); clear ST1 hw_ hob_; refine wpList_storeW (vs := h.arr ds x) (ST2.out.blkAt 0 rfl) (by rfl) 137 _ _ (by rfl) (by rfl) (by rfl) rfl Try.infoRefHand (by rw [← Array.all_toList]; rfl) ?_)
      intro wb f_ b_
      have ST3 := Lib.hid (show Sta W O p D [⟨b1, h.arr ds x, 137⟩, ⟨b0, h.arr ds x, 137⟩] [⟨146, 3, .slice (some ⟨ob, 0, none⟩) 1 1, 1, Ho.rcells ⟨n, 6, false⟩⟩] (rhrows h ds x []) wb from ST2.out.store 0 rfl f_ b_)
      clear ST2 f_ b_
      have LL : Hid ((loadVar 137 ⟨b1, 0, none⟩).run Try.prog wb = .ok (.agg (h.arr ds x)) wb) := Lib.hid (run_loadVar_mid wb b1 0 137 (Array.toList (h.arr ds x)) _ (blk_range (ST3.out.blkAt 0 rfl)) Try.underlying137 rfl Try.infoRefHand)
      have LA : Hid ((asAddr (.pointer (some ⟨b1, 0, none⟩))).run Try.prog wb = .ok ⟨b1, 0, none⟩ wb) := Lib.hid (by simp [go_sem])
      go_wp2_with fail
      refine bodyPost_ret (v := .tuple #[.agg (h.arr ds x), .slice (some ⟨ob, 0, none⟩) 1 1]) (by simp [results, Try.results64, Sem.run_bind, Result.andThen_ok, LL.out, LA.out]) rfl ?_
      exact ⟨x, _, rfl, ST3.out.out (List.Sublist.refl _) (inC (at_ 0 rfl) (inC (at_ 1 rfl) (inC (at_ 2 rfl) (inC (at_ 3 rfl) inN))))⟩
  case true =>
    clear y1 y3 CH
    have y6 : w1.cell? ⟨b0, 6, none⟩ = some (.slice x.ka h.asked.length x.kc) := ST1.out.cell 1 6 rfl rfl
    have zf : w1.frozen? ⟨b0, 6, none⟩ = false := ST1.out.froz 1 6 rfl
    go_upto_region 2 with fail
    go_wp2_with fail
    refine (CD.out _ (ST1.out.rowAt 3 rfl)).mono ?_
    intro e w2 hst
    obtain ⟨kd, cd, rfl, hst2⟩ := ST1.out.callI hst
    have ST2 := Lib.hid (show Sta W O p D [⟨b1, rhZ, 137⟩, ⟨b0, h.arr ds x, 137⟩] [] (⟨kd, (rDrop h.asked n).length, cd, ints (rDrop h.asked n)⟩ :: rhrows h ds x []) w2 from hst2)
    clear hst hst2 ST1 y6 zf CD
    have zf : w2.frozen? ⟨b0, 6, none⟩ = false := ST2.out.froz 1 6 rfl
    have y6 : w2.cell? ⟨b0, 6, none⟩ = some (.slice x.ka h.asked.length x.kc) := ST2.out.cell 1 6 rfl rfl
    go_upto_region 3 with fail
    obtain ⟨w3, hw_⟩ : ∃ x, x = w2.setCell ⟨b0, 6, none⟩ (.slice kd (rDrop h.asked n).length cd) := ⟨_, rfl⟩
    rw [← hw_]
    have ST3 := Lib.hid (show Sta W O p D [⟨b1, rhZ, 137⟩, ⟨b0, #[.int .i64 h.u.self, .slice x.y.aa h.u.act.length x.y.ac, .slice x.y.pa h.u.pas.length x.y.pc, .int .i64 h.u.am, .int .i64 h.u.pm, .slice x.da ds.length x.dc, .slice kd (rDrop h.asked n).length cd], 137⟩] [] (⟨kd, (rDrop h.asked n).length, cd, ints (rDrop h.asked n)⟩ :: rhrows h ds x []) w3 from hw_ ▸ ST2.out.setC 1 rfl 6 (.slice kd (rDrop h.asked n).length cd) (Nat.le_of_ble_eq_true rfl))
    clear ST2 hw_
    clear zf y6
    have y3 : w3.cell? ⟨b0, 3, none⟩ = some (.int .i64 h.u.am) := ST3.out.cell 1 3 rfl rfl
    by_cases hz : h.u.am = 0
    · have hz2 : (h.u.am == 0) = true := by simpa using hz
      obtain ⟨rfl, rfl, rfl⟩ : (⟨h.u, rDrop h.asked n⟩ : Rh) = h' ∧ [] = o ∧ ds = dn := by
        have hh := HH.out
        rw [show rhOnYes h n ds = ((⟨h.u, rDrop h.asked n⟩ : Rh), [], ds) by unfold rhOnYes; rw [e0, if_pos rfl, if_pos hz]] at hh
        injection hh with a b
        injection b with b c
        exact ⟨a, b, c⟩
      clear HH e0 hz CT
      go_upto_region 4 with fail
      clear y3 hz2
      refine wp_region_lit ?_
      refine wpList_load_mid (by rfl) 137 _ (by rfl) b0 0 (by rfl) (Array.toList (#[.int .i64 h.u.self, .slice x.y.aa h.u.act.length x.y.ac, .slice x.y.pa h.u.pas.length x.y.pc, .int .i64 h.u.am, .int .i64 h.u.pm, .slice x.da ds.length x.dc, .slice kd (rDrop h.asked n).length cd])) _ (blk_range (ST3.out.blkAt 1 rfl)) Try.underlying137 rfl Try.infoRefHand ?_
      go_wp2_with (refine wpList_storeW (vs := #[.int .i64 h.u.self, .slice x.y.aa h.u.act.length x.y.ac, .slice x.y.pa h.u.pas.length x.y.pc, .int .i64 h.u.am, .int .i64 h.u.pm, .slice x.da ds.length x.dc, .slice kd (rDrop h.asked n).length cd]) (ST3.out.blkAt 0 rfl) (by rfl) 137 _ _ (by rfl) (by rfl) (by rfl) rfl Try.infoRefHand (by rw [← Array.all_toList]; rfl) ?_)
      intro w9 f_ b_
      have ST4 := Lib.hid (show Sta W O p D [⟨b1, #[.int .i64 h.u.self, .slice x.y.aa h.u.act.length x.y.ac, .slice x.y.pa h.u.pas.length x.y.pc, .int .i64 h.u.am, .int .i64 h.u.pm, .slice x.da ds.length x.dc, .slice kd (rDrop h.asked n).length cd], 137⟩, ⟨b0, #[.int .i64 h.u.self, .slice x.y.aa h.u.act.length x.y.ac, .slice x.y.pa h.u.pas.length x.y.pc, .int .i64 h.u.am, .int .i64 h.u.pm, .slice x.da ds.length x.dc, .slice kd (rDrop h.asked n).length cd], 137⟩] [] (⟨kd, (rDrop h.asked n).length, cd, ints (rDrop h.asked n)⟩ :: rhrows h ds x []) w9 from ST3.out.store 0 rfl f_ b_)
      clear ST3 f_ b_
      have LL : Hid ((loadVar 137 ⟨b1, 0, none⟩).run Try.prog w9 = .ok (.agg (#[.int .i64 h.u.self, .slice x.y.aa h.u.act.length x.y.ac, .slice x.y.pa h.u.pas.length x.y.pc, .int .i64 h.u.am, .int .i64 h.u.pm, .slice x.da ds.length x.dc, .slice kd (rDrop h.asked n).length cd])) w9) := Lib.hid (run_loadVar_mid w9 b1 0 137 (Array.toList (#[.int .i64 h.u.self, .slice x.y.aa h.u.act.length x.y.ac, .slice x.y.pa h.u.pas.length x.y.pc, .int .i64 h.u.am, .int .i64 h.u.pm, .slice x.da ds.length x.dc, .slice kd (rDrop h.asked n).length cd])) _ (blk_range (ST4.out.blkAt 0 rfl)) Try.underlying137 rfl Try.infoRefHand)
      have LA : Hid ((asAddr (.pointer (some ⟨b1, 0, none⟩))).run Try.prog w9 = .ok ⟨b1, 0, none⟩ w9) := Lib.hid (by simp [go_sem])
      go_wp2_with fail
      refine bodyPost_ret (v := .tuple #[.agg (#[.int .i64 h.u.self, .slice x.y.aa h.u.act.length x.y.ac, .slice x.y.pa h.u.pas.length x.y.pc, .int .i64 h.u.am, .int .i64 h.u.pm, .slice x.da ds.length x.dc, .slice kd (rDrop h.asked n).length cd]), .slice none 0 0]) (by simp [results, Try.results64, Sem.run_bind, Result.andThen_ok, LL.out, LA.out]) rfl ?_
      exact ⟨(⟨x.y, x.da, x.dc, kd, cd⟩ : RhP), _, rfl, (ST4.out.ownNil 146 3).out (List.Sublist.refl _) (inC (at_ 1 rfl) (inC (at_ 2 rfl) (inC (at_ 3 rfl) (inC (at_ 0 rfl) inN))))⟩
    · have hz2 : (h.u.am == 0) = false := by simpa using hz
      obtain ⟨ht, ot, dt, hht⟩ : ∃ a b c, rhTake ⟨h.u, rDrop h.asked n⟩ n ds = (a, b, c) := ⟨_, _, _, rfl⟩
      obtain ⟨rfl, rfl, rfl⟩ : ht = h' ∧ ot = o ∧ dt = dn := by
        have hh := HH.out
        rw [show rhOnYes h n ds = (ht, ot, dt) by unfold rhOnYes; rw [e0, if_pos rfl, if_neg hz, hht]] at hh
        injection hh with a b
        injection b with b c
        exact ⟨a, b, c⟩
      clear HH e0 hz
      rw [hht] at CT
      simp only at CT
      clear hht
      go_upto_region 5 with fail
      clear y3 hz2
      refine wp_region_lit ?_
      refine wpList_load_mid (by rfl) 137 _ (by rfl) b0 0 (by rfl) (Array.toList (#[.int .i64 h.u.self, .slice x.y.aa h.u.act.length x.y.ac, .slice x.y.pa h.u.pas.length x.y.pc, .int .i64 h.u.am, .int .i64 h.u.pm, .slice x.da ds.length x.dc, .slice kd (rDrop h.asked n).length cd])) _ (blk_range (ST3.out.blkAt 1 rfl)) Try.underlying137 rfl Try.infoRefHand ?_
      go_wp2_with fail
      refine (CT.out (⟨x.y, x.da, x.dc, kd, cd⟩ : RhP) _ _ (ST3.out.enter (rhrows (⟨h.u, rDrop h.asked n⟩ : Rh) ds (⟨x.y, x.da, x.dc, kd, cd⟩ : RhP) []) (inC (at_ 1 rfl) (inC (at_ 2 rfl) (inC (at_ 3 rfl) (inC (at_ 0 rfl) inN)))))).mono ?_
      intro e w5 hst
      obtain ⟨xt, ov, rfl, hst2⟩ := hst
      have ST4 := Lib.hid (show Sta W O p D [⟨b1, rhZ, 137⟩, ⟨b0, #[.int .i64 h.u.self, .slice x.y.aa h.u.act.length x.y.ac, .slice x.y.pa h.u.pas.length x.y.pc, .int .i64 h.u.am, .int .i64 h.u.pm, .slice x.da ds.length x.dc, .slice kd (rDrop h.asked n).length cd], 137⟩] [⟨146, 3, ov, ot.length, routs ot⟩] (rhrows ht dt xt (⟨kd, (rDrop h.asked n).length, cd, ints (rDrop h.asked n)⟩ :: rhrows h ds x [])) w5 from ST3.out.leave (inC (at_ 1 rfl) (inC (at_ 2 rfl) (inC (at_ 3 rfl) (inC (at_ 0 rfl) inN)))) hst2)
      clear hst2 ST3
      go_wp2_with (refine wpList_storeW (vs := ht.arr dt xt) (ST4.out.blkAt 0 rfl) (by rfl) 137 _ _ (by rfl) (by rfl) (by rfl) rfl Try.infoRefHand (by rw [← Array.all_toList]; rfl) ?_)
      intro w6 f_ b_
      have ST5 := Lib.hid (show Sta W O p D [⟨b1, ht.arr dt xt, 137⟩, ⟨b0, #[.int .i64 h.u.self, .slice x.y.aa h.u.act.length x.y.ac, .slice x.y.pa h.u.pas.length x.y.pc, .int .i64 h.u.am, .int .i64 h.u.pm, .slice x.da ds.length x.dc, .slice kd (rDrop h.asked n).length cd], 137⟩] [⟨146, 3, ov, ot.length, routs ot⟩] (rhrows ht dt xt (⟨kd, (rDrop h.asked n).length, cd, ints (rDrop h.asked n)⟩ :: rhrows h ds x [])) w6 from ST4.out.store 0 rfl f_ b_)
      clear ST4 f_ b_
      have LL : Hid ((loadVar 137 ⟨b1, 0, none⟩).run Try.prog w6 = .ok (.agg (ht.arr dt xt)) w6) := Lib.hid (run_loadVar_mid w6 b1 0 137 (Array.toList (ht.arr dt xt)) _ (blk_range (ST5.out.blkAt 0 rfl)) Try.underlying137 rfl Try.infoRefHand)
      have LA : Hid ((asAddr (.pointer (some ⟨b1, 0, none⟩))).run Try.prog w6 = .ok ⟨b1, 0, none⟩ w6) := Lib.hid (by simp [go_sem])
      go_wp2_with fail
      refine bodyPost_ret (v := .tuple #[.agg (ht.arr dt xt), ov]) (by simp [results, Try.results64, Sem.run_bind, Result.andThen_ok, LL.out, LA.out]) rfl ?_
      exact ⟨xt, _, rfl, ST5.out.out (List.Sublist.refl _) (inC (at_ 0 rfl) (inC (at_ 1 rfl) (inC (at_ 2 rfl) (inC (at_ 3 rfl) inN))))⟩

set_option maxHeartbeats 4000000 in
set_option maxRecDepth 100000 in
theorem rhTake_few (h : Rh) (n : Int) (ds : List Int) : (rhTake h n ds).2.1.length ≤ 1 := by
  unfold rhTake
  split
  · exact Nat.zero_le _
  · split
    · simp only
      split <;> simp
    · exact Nat.zero_le _

set_option maxHeartbeats 4000000 in
set_option maxRecDepth 100000 in
theorem refOnAsk11_any (h : Rh) (ds : List Int) (x : RhP) (n : Int) (high : Bool) (p : Value) (D : List Int) (O : Nat → Prop) (W : World) (hs : Sta W O p D [] [] (rhrows h ds x []) W) (hk : RhOk h ds) :
    Calls Try.prog 68 #[.agg (h.arr ds x), .int .i64 n, .bool high] W (REnd W O p D (rhOnAsk h n high ds).1 (rhOnAsk h n high ds).2.2 (rhOnAsk h n high ds).2.1 (fun a ov => .tuple #[.agg a, ov])) := by
  obtain ⟨ih, hh1, hh2, hh3⟩ := info_pair Try.zeroRefHand
  obtain ⟨h', o, dn, hh⟩ : ∃ h' o dn, rhOnAsk h n high ds = (h', o, dn) := ⟨_, _, _, rfl⟩
  rw [hh]
  simp only
  have HH := Lib.hid hh
  have HK := Lib.hid hk
  have CH := Lib.hid (fun w (h1 : SlA w x.y.aa h.u.act.length x.y.ac (ints h.u.act)) => refHas_any x.y.aa x.y.ac h.u.act n w h1)
  have CT := Lib.hid (fun w (h1 : Sta w (Org (rhrows h ds x [])) p D [] [] (rhrows h ds x []) w) => refTake11_any h ds x n p D _ w h1 HK.out)
  have HFE := Lib.hid (rhTake_few h n ds)
  obtain ⟨ht, ot, dt, hht⟩ : ∃ a b c, rhTake h n ds = (a, b, c) := ⟨_, _, _, rfl⟩
  rw [hht] at CT HFE
  simp only at CT HFE
  have HT := Lib.hid hht
  obtain ⟨N, hN⟩ : ∃ N, N = rhNo h n high := ⟨_, rfl⟩
  have HNN := Lib.hid hN
  clear hh hk hht hN
  obtain ⟨w1, hw1⟩ : ∃ w1, w1 = (W.alloc (.cells (h.arr ds x) 137)).alloc (.cells rhZ 137) := ⟨_, rfl⟩
  obtain ⟨b0, hb0⟩ : ∃ b, b = W.heap.size := ⟨_, rfl⟩
  obtain ⟨b1, hb1⟩ : ∃ b, b = W.heap.size + 1 := ⟨_, rfl⟩
  have ST1 := Lib.hid (show Sta W O p D [⟨b1, rhZ, 137⟩, ⟨b0, h.arr ds x, 137⟩] [] (rhrows h ds x []) w1 by rw [hw1]; exact (hs.box _ _ hb0).box _ _ (by rw [World.size_alloc]; exact hb1))
  have HW1 := Lib.hid hw1
  have HB0 := Lib.hid hb0
  have HB1 := Lib.hid hb1
  clear hw1 hb0 hb1 hs
  have l10 := (ST1.out.rowAt 0 rfl).le
  have l11 := (ST1.out.rowAt 0 rfl).max
  go_enter Try.func68, Try.ntmps68
  go_upto_region 1 with fail
  rw [← HW1.out, ← HB1.out, ← HB0.out]
  clear HW1 HB0 HB1
  have y1 : w1.cell? ⟨b0, 1, none⟩ = some (.slice x.y.aa h.u.act.length x.y.ac) := ST1.out.cell 1 1 rfl rfl
  go_wp2_with fail
  refine (CH.out _ (ST1.out.rowAt 0 rfl)).mono ?_
  rintro e _ ⟨rfl, rfl⟩
  clear y1 CH
  cases e1 : has h.u.act n
  case true =>
    obtain ⟨rfl, rfl, rfl⟩ : h = h' ∧ [⟨n, 4, false⟩] = o ∧ ds = dn := by
      have hh := HH.out
      rw [show rhOnAsk h n high ds = (h, [⟨n, 4, false⟩], ds) by unfold rhOnAsk; rw [e1, if_pos rfl]] at hh
      injection hh with a b
      injection b with b c
      exact ⟨a, b, c⟩
    clear HH e1 CT HFE HT HNN
    go_upto_region 2 with fail
    refine wp_region_lit ?_
    refine wpList_load_mid (by rfl) 137 _ (by rfl) b0 0 (by rfl) (Array.toList (h.arr ds x)) _ (blk_range (ST1.out.blkAt 1 rfl)) Try.underlying137 rfl Try.infoRefHand ?_
    go_wp2_with (refine wpList_bldRO (i0 := n) (i1 := 4) (b := false) (by rfl) (by rfl) (by rfl) ?_; refine wpList_bldROs (by rfl) ?_; obtain ⟨wa, hw_⟩ : ∃ x, x = w1.alloc (.cells (#[.int .i64 n, .int .i64 4, .bool false]) 146) := ⟨_, rfl⟩; obtain ⟨ob, hob_⟩ : ∃ b, b = w1.heap.size := ⟨_, rfl⟩; rw [← hw_, ← hob_]; have ST2 := Lib.hid (show Sta W O p D [⟨b1, rhZ, 137⟩, ⟨b0, h.arr ds x, 137⟩] [⟨146, 3, .slice (some ⟨ob, 0, none⟩) 1 1, 1, Ho.rcells ⟨n, 4, false⟩⟩] (rhrows h ds x []) wa from hw_ ▸ ST1.out.ownNew ((Fr.refl _ _).alloc _) (xs := Ho.rcells ⟨n, 4, false⟩) (n := 1) (by rw [heap_alloc_if, if_pos hob_]; rfl) (Nat.le_of_eq hob_.symm) rfl (by decide)); clear ST1 hw_ hob_; refine wpList_storeW (vs := h.arr ds x) (ST2.out.blkAt 0 rfl) (by rfl) 137 _ _ (by rfl) (by rfl) (by rfl) rfl Try.infoRefHand (by rw [← Array.all_toList]; rfl) ?_)
    intro wb f_ b_
    have ST3 := Lib.hid (show Sta W O p D [⟨b1, h.arr ds x, 137⟩, ⟨b0, h.arr ds x, 137⟩] [⟨146, 3, .slice (some ⟨ob, 0, none⟩) 1 1, 1, Ho.rcells ⟨n, 4, false⟩⟩] (rhrows h ds x []) wb from ST2.out.store 0 rfl f_ b_)
    clear ST2 f_ b_
    have LL : Hid ((loadVar 137 ⟨b1, 0, none⟩).run Try.prog wb = .ok (.agg (h.arr ds x)) wb) := Lib.hid (run_loadVar_mid wb b1 0 137 (Array.toList (h.arr ds x)) _ (blk_range (ST3.out.blkAt 0 rfl)) Try.underlying137 rfl Try.infoRefHand)
    have LA : Hid ((asAddr (.pointer (some ⟨b1, 0, none⟩))).run Try.prog wb = .ok ⟨b1, 0, none⟩ wb) := Lib.hid (by simp [go_sem])
    go_wp2_with fail
    refine bodyPost_ret (v := .tuple #[.agg (h.arr ds x), .slice (some ⟨ob, 0, none⟩) 1 1]) (by simp [results, Try.results68, Sem.run_bind, Result.andThen_ok, LL.out, LA.out]) rfl ?_
    exact ⟨x, _, rfl, ST3.out.out (List.Sublist.refl _) (inC (at_ 0 rfl) (inC (at_ 1 rfl) (inC (at_ 2 rfl) (inC (at_ 3 rfl) inN))))⟩
  case false =>
    have E1 := Lib.hid e1
    clear e1
    go_upto_region 3 with fail
    go_cut [51] from 19 to 50 (fun a wx => a = .bool N ∧ w1 = wx)
    case first =>
      have y0 : w1.cell? ⟨b0, 0, none⟩ = some (.int .i64 h.u.self) := ST1.out.cell 1 0 rfl rfl
      have y1 : w1.cell? ⟨b0, 1, none⟩ = some (.slice x.y.aa h.u.act.length x.y.ac) := ST1.out.cell 1 1 rfl rfl
      have y3 : w1.cell? ⟨b0, 3, none⟩ = some (.int .i64 h.u.am) := ST1.out.cell 1 3 rfl rfl
      by_cases h1 : n < 1
      · have d1 : decide (n < 1) = true := decide_eq_true h1
        have hn : Hid (N = true) := Lib.hid (by rw [HNN.out]; unfold rhNo; rw [d1]; simp)
        go_wp2_with fail
        go_meet
        exact ⟨by rw [hn.out], rfl⟩
      · have d1 : decide (n < 1) = false := decide_eq_false h1
        by_cases h2 : 65535 < n
        · have d2 : decide (65535 < n) = true := decide_eq_true h2
          have hn : Hid (N = true) := Lib.hid (by rw [HNN.out]; unfold rhNo; rw [d1, d2]; simp)
          go_wp2_with fail
          go_meet
          exact ⟨by rw [hn.out], rfl⟩
        · have d2 : decide (65535 < n) = false := decide_eq_false h2
          cases e0 : (n == h.u.self)
          case true =>
            have hn : Hid (N = true) := Lib.hid (by rw [HNN.out]; unfold rhNo; rw [d1, d2, e0]; simp)
            go_wp2_with fail
            go_meet
            exact ⟨by rw [hn.out], rfl⟩
          case false =>
            cases e2 : (h.u.am == 0)
            case true =>
              have hn : Hid (N = true) := Lib.hid (by rw [HNN.out]; unfold rhNo; rw [d1, d2, e0, e2]; simp)
              go_wp2_with fail
              go_meet
              exact ⟨by rw [hn.out], rfl⟩
            case false =>
              cases high
              case true =>
                have hn : Hid (N = false) := Lib.hid (by rw [HNN.out]; unfold rhNo; rw [d1, d2, e0, e2]; simp)
                go_wp2_with fail
                go_meet
                exact ⟨by rw [hn.out], rfl⟩
              case false =>
                by_cases h3 : h.u.am ≤ (h.u.act.length : Int)
                · have d3 : decide (h.u.am ≤ (h.u.act.length : Int)) = true := decide_eq_true h3
                  have hn : Hid (N = true) := Lib.hid (by rw [HNN.out]; unfold rhNo raFull; rw [d1, d2, e0, e2, d3]; simp)
                  go_wp2_with fail
                  go_meet
                  exact ⟨by rw [hn.out], rfl⟩
                · have d3 : decide (h.u.am ≤ (h.u.act.length : Int)) = false := decide_eq_false h3
                  have hn : Hid (N = false) := Lib.hid (by rw [HNN.out]; unfold rhNo raFull; rw [d1, d2, e0, e2, d3]; simp)
                  go_wp2_with fail
                  go_meet
                  exact ⟨by rw [hn.out], rfl⟩
    case rest =>
      obtain ⟨rfl, rfl⟩ := hcut
      cases N
      case true =>
        obtain ⟨rfl, rfl, rfl⟩ : h = h' ∧ [⟨n, 5, false⟩] = o ∧ ds = dn := by
          have hh := HH.out
          rw [show rhOnAsk h n high ds = (h, [⟨n, 5, false⟩], ds) by unfold rhOnAsk; rw [E1.out, if_neg (by decide), ← HNN.out, if_pos rfl]] at hh
          injection hh with a b
          injection b with b c
          exact ⟨a, b, c⟩
        clear HH E1 HNN HT CT HFE
        go_upto_region 4 with fail
        refine wp_region_lit ?_
        refine wpList_load_mid (by rfl) 137 _ (by rfl) b0 0 (by rfl) (Array.toList (h.arr ds x)) _ (blk_range (ST1.out.blkAt 1 rfl)) Try.underlying137 rfl Try.infoRefHand ?_
        go_wp2_with (refine wpList_bldRO (i0 := n) (i1 := 5) (b := false) (by rfl) (by rfl) (by rfl) ?_; refine wpList_bldROs (by rfl) ?_; obtain ⟨wa, hw_⟩ : ∃ x, x = w1.alloc (.cells (#[.int .i64 n, .int .i64 5, .bool false]) 146) := ⟨_, rfl⟩; obtain ⟨ob, hob_⟩ : ∃ b, b = w1.heap.size := ⟨_, rfl⟩; rw [← hw_, ← hob_]; have ST2 := Lib.hid (show Sta W O p D [⟨b1, rhZ, 137⟩, ⟨b0, h.arr ds x, 137⟩] [⟨146, 3, .slice (some ⟨ob, 0, none⟩) 1 1, 1, Ho.rcells ⟨n, 5, false⟩⟩] (rhrows h ds x []) wa from hw_ ▸ ST1.out.ownNew ((Fr.refl _ _).alloc _) (xs := Ho.rcells ⟨n, 5, false⟩) (n := 1) (by rw [heap_alloc_if, if_pos hob_]; rfl) (Nat.le_of_eq hob_.symm) rfl (by decide)); clear ST1 hw_ hob_; refine wpList_storeW (vs := h.arr ds x) (ST2.out.blkAt 0 rfl) (by rfl) 137 _ _ (by rfl) (by rfl) (by rfl) rfl Try.infoRefHand (by rw [← Array.all_toList]; rfl) ?_)
        intro wb f_ b_
        have ST3 := Lib.hid (show Sta W O p D [⟨b1, h.arr ds x, 137⟩, ⟨b0, h.arr ds x, 137⟩] [⟨146, 3, .slice (some ⟨ob, 0, none⟩) 1 1, 1, Ho.rcells ⟨n, 5, false⟩⟩] (rhrows h ds x []) wb from ST2.out.store 0 rfl f_ b_)
        clear ST2 f_ b_
        have LL : Hid ((loadVar 137 ⟨b1, 0, none⟩).run Try.prog wb = .ok (.agg (h.arr ds x)) wb) := Lib.hid (run_loadVar_mid wb b1 0 137 (Array.toList (h.arr ds x)) _ (blk_range (ST3.out.blkAt 0 rfl)) Try.underlying137 rfl Try.infoRefHand)
        have LA : Hid ((asAddr (.pointer (some ⟨b1, 0, none⟩))).run Try.prog wb = .ok ⟨b1, 0, none⟩ wb) := Lib.hid (by simp [go_sem])
        go_wp2_with fail
        refine bodyPost_ret (v := .tuple #[.agg (h.arr ds x), .slice (some ⟨ob, 0, none⟩) 1 1]) (by simp [results, Try.results68, Sem.run_bind, Result.andThen_ok, LL.out, LA.out]) rfl ?_
        exact ⟨x, _, rfl, ST3.out.out (List.Sublist.refl _) (inC (at_ 0 rfl) (inC (at_ 1 rfl) (inC (at_ 2 rfl) (inC (at_ 3 rfl) inN))))⟩
      case false =>
        obtain ⟨rfl, rfl, rfl⟩ : ht = h' ∧ ot ++ [⟨n, 4, false⟩] = o ∧ dt = dn := by
          have hh := HH.out
          rw [show rhOnAsk h n high ds = (ht, ot ++ [⟨n, 4, false⟩], dt) by unfold rhOnAsk; rw [E1.out, if_neg (by decide), ← HNN.out, if_neg (by decide), HT.out]] at hh
          injection hh with a b
          injection b with b c
          exact ⟨a, b, c⟩
        clear HH E1 HNN HT
        go_upto_region 5 with fail
        refine wp_region_lit ?_
        refine wpList_load_mid (by rfl) 137 _ (by rfl) b0 0 (by rfl) (Array.toList (h.arr ds x)) _ (blk_range (ST1.out.blkAt 1 rfl)) Try.underlying137 rfl Try.infoRefHand ?_
        go_wp2_with fail
        refine (CT.out _ (ST1.out.enter (rhrows h ds x []) (inC (at_ 0 rfl) (inC (at_ 1 rfl) (inC (at_ 2 rfl) (inC (at_ 3 rfl) inN)))))).mono ?_
        intro e w5 hst
        obtain ⟨xt, ov, rfl, hst2⟩ := hst
        have ST2 := Lib.hid (show Sta W O p D [⟨b1, rhZ, 137⟩, ⟨b0, h.arr ds x, 137⟩] [⟨146, 3, ov, ot.length, routs ot⟩] (rhrows ht dt xt (rhrows h ds x [])) w5 from ST1.out.leave (inC (at_ 0 rfl) (inC (at_ 1 rfl) (inC (at_ 2 rfl) (inC (at_ 3 rfl) inN)))) hst2)
        clear hst2 ST1
        go_wp2_with (refine wpList_fresh (vs := ht.arr dt xt) hh1 hh2 Try.infoRefHand (by rfl) (by rw [← Array.all_toList]; rfl) (by rfl) (by rfl) ?_)
        intro w6 f_ b_ l_
        obtain ⟨u, hb_⟩ : ∃ b, b = w5.heap.size := ⟨_, rfl⟩
        rw [← hb_] at b_ l_ ⊢
        have ST3 := Lib.hid (show Sta W O p D [⟨u, ht.arr dt xt, 137⟩, ⟨b1, rhZ, 137⟩, ⟨b0, h.arr ds x, 137⟩] [⟨146, 3, ov, ot.length, routs ot⟩] (rhrows ht dt xt (rhrows h ds x [])) w6 from ST2.out.var f_ b_ (Nat.le_of_eq hb_.symm))
        clear ST2 f_ b_ l_ hb_
        go_upto_region 6 with fail
        obtain ⟨wd, hwd⟩ : ∃ x, x = w6.drew := ⟨_, rfl⟩
        have HWD := Lib.hid hwd
        have ST4 := Lib.hid (show Sta W O p D [⟨u, ht.arr dt xt, 137⟩, ⟨b1, rhZ, 137⟩, ⟨b0, h.arr ds x, 137⟩] [⟨146, 3, ov, ot.length, routs ot⟩] (rhrows ht dt xt (rhrows h ds x [])) wd from hwd ▸ ST3.out.gr ((Fr.refl _ _).drew))
        clear ST3 hwd
        haveI : Nonempty (WC (fun w => w.heap[u]? = some (.cells (ht.arr dt xt) 137 (0, 0)))) := ⟨⟨wd, ST4.out.blkAt 0 rfl⟩⟩
        refine wp_region_plan [3, 4, 5, 6, 7] (Plan.seq [0, 1, 2, 3, 4, 5, 6, 7] .done) (fun w' => ∃ z : WC (fun w => w.heap[u]? = some (.cells (ht.arr dt xt) 137 (0, 0))), w' = z.val) (by kernel_rfl) (by kernel_rfl) (fun c a w d v h => by cases d <;> exact h) (fun c a w d v h => by cases d <;> exact h) (by rw [← HWD.out]; exact ⟨⟨wd, ST4.out.blkAt 0 rfl⟩, rfl⟩) ?_
        rw [← HWD.out]
        clear HWD
        refine wpV_q (by simp only [List.getElem?_toArray, List.getElem?_cons_zero] <;> rfl) (by rfl) (by rfl) ?_
        refine wpQuiet_loadH (by rfl) 137 _ (by rfl) u 0 (by rfl) (Array.toList (ht.arr dt xt)) _ (fun w ⟨z, hz⟩ => hz ▸ blk_range z.ok) Try.underlying137 rfl Try.infoRefHand ?_
        refine wpQuiet_nil ?_
        simp only [Act.put, List.setIfInBounds_toArray, List.set_cons_succ, List.set_cons_zero]
        refine wpV_q (by simp only [List.getElem?_toArray, List.getElem?_cons_succ, List.getElem?_cons_zero] <;> rfl) (by rfl) (by rfl) ?_
        go_big_quiet_step (fail)
        refine wpQuiet_nil ?_
        refine wpV_q (by simp only [List.getElem?_toArray, List.getElem?_cons_succ, List.getElem?_cons_zero] <;> rfl) (by rfl) (by rfl) ?_
        go_big_quiet_step (fail)
        refine wpQuiet_nil ?_
        refine wpV_e (by simp only [List.getElem?_toArray, List.getElem?_cons_succ, List.getElem?_cons_zero] <;> rfl) (by rfl) ?_
        refine wpList_bldRO (i0 := n) (i1 := 4) (b := false) (by rfl) (by rfl) (by rfl) ?_
        refine wpList_nil ?_
        refine ⟨⟨⟨wd, ST4.out.blkAt 0 rfl⟩, rfl⟩, ?_⟩
        simp only [Act.put, List.setIfInBounds_toArray, List.set_cons_succ, List.set_cons_zero]
        refine wpV_e (by simp only [List.getElem?_toArray, List.getElem?_cons_succ, List.getElem?_cons_zero] <;> rfl) (by rfl) ?_
        refine wpList_bldROs (by rfl) ?_
        refine wpList_nil ?_
        obtain ⟨wb, hw_⟩ : ∃ x, x = wd.alloc (.cells (#[.int .i64 n, .int .i64 4, .bool false]) 146) := ⟨_, rfl⟩
        obtain ⟨ob, hob_⟩ : ∃ b, b = wd.heap.size := ⟨_, rfl⟩
        rw [← hw_, ← hob_]
        have ST5 := Lib.hid (show Sta W O p D [⟨u, ht.arr dt xt, 137⟩, ⟨b1, rhZ, 137⟩, ⟨b0, h.arr ds x, 137⟩] [⟨146, 3, .slice (some ⟨ob, 0, none⟩) 1 1, 1, Ho.rcells ⟨n, 4, false⟩⟩, ⟨146, 3, ov, ot.length, routs ot⟩] (rhrows ht dt xt (rhrows h ds x [])) wb from hw_ ▸ ST4.out.ownNew ((Fr.refl _ _).alloc _) (xs := Ho.rcells ⟨n, 4, false⟩) (n := 1) (by rw [heap_alloc_if, if_pos hob_]; rfl) (Nat.le_of_eq hob_.symm) rfl (by decide))
        clear ST4 hw_ hob_
        refine ⟨⟨⟨wb, ST5.out.blkAt 0 rfl⟩, rfl⟩, ?_⟩
        simp only [Act.put, List.setIfInBounds_toArray, List.set_cons_succ, List.set_cons_zero]
        refine wpV_e (by simp only [List.getElem?_toArray, List.getElem?_cons_succ, List.getElem?_cons_zero] <;> rfl) (by rfl) ?_
        refine wpList_growT (by rfl) _ _ 140 146 3 24 (.agg roZ) Try.underlying140 Try.infoRefOutB rfl (by decide) (by decide) (by rfl) ST5.out 1 rfl (by rfl) (by rfl) (own_add (ST5.out.ownAt 0 rfl)) (by rfl) (by rfl) (by have := HFE.out; omega) ?_
        intro ow wc1 hst
        refine wpList_nil ?_
        have ST6 := Lib.hid (show Sta W O p D [⟨u, ht.arr dt xt, 137⟩, ⟨b1, rhZ, 137⟩, ⟨b0, h.arr ds x, 137⟩] [⟨146, 3, .slice (some ⟨ob, 0, none⟩) 1 1, 1, Ho.rcells ⟨n, 4, false⟩⟩, ⟨146, 3, ow, ot.length + 1, routs ot ++ Ho.rcells ⟨n, 4, false⟩⟩] (rhrows ht dt xt (rhrows h ds x [])) wc1 from hst)
        clear hst ST5
        refine ⟨⟨⟨wc1, ST6.out.blkAt 0 rfl⟩, rfl⟩, ?_⟩
        simp only [Act.put, List.setIfInBounds_toArray, List.set_cons_succ, List.set_cons_zero]
        refine wpV_e (by simp only [List.getElem?_toArray, List.getElem?_cons_succ, List.getElem?_cons_zero] <;> rfl) (by rfl) ?_
        refine wpList_storeW (vs := ht.arr dt xt) (ST6.out.blkAt 1 rfl) (by rfl) 137 _ _ (by rfl) (by rfl) (by rfl) rfl Try.infoRefHand (by rw [← Array.all_toList]; rfl) ?_
        intro wd1 f_ b_
        have ST7 := Lib.hid (show Sta W O p D [⟨u, ht.arr dt xt, 137⟩, ⟨b1, ht.arr dt xt, 137⟩, ⟨b0, h.arr ds x, 137⟩] [⟨146, 3, .slice (some ⟨ob, 0, none⟩) 1 1, 1, Ho.rcells ⟨n, 4, false⟩⟩, ⟨146, 3, ow, ot.length + 1, routs ot ++ Ho.rcells ⟨n, 4, false⟩⟩] (rhrows ht dt xt (rhrows h ds x [])) wd1 from ST6.out.store 1 rfl f_ b_)
        clear ST6 f_ b_
        refine wpList_nil ?_
        refine ⟨⟨⟨wd1, ST7.out.blkAt 0 rfl⟩, rfl⟩, ?_⟩
        simp only [Act.put]
        refine wpV_e (by simp only [List.getElem?_toArray, List.getElem?_cons_succ, List.getElem?_cons_zero] <;> rfl) (by rfl) ?_
        go_wp2_with fail
        refine ⟨⟨⟨wd1, ST7.out.blkAt 0 rfl⟩, rfl⟩, ?_⟩
        refine wpV_done ?_
        have LL : Hid ((loadVar 137 ⟨b1, 0, none⟩).run Try.prog wd1 = .ok (.agg (ht.arr dt xt)) wd1) := Lib.hid (run_loadVar_mid wd1 b1 0 137 (Array.toList (ht.arr dt xt)) _ (blk_range (ST7.out.blkAt 1 rfl)) Try.underlying137 rfl Try.infoRefHand)
        have LA : Hid ((asAddr (.pointer (some ⟨b1, 0, none⟩))).run Try.prog wd1 = .ok ⟨b1, 0, none⟩ wd1) := Lib.hid (by simp [go_sem])
        go_wp2_with fail
        refine bodyPost_ret (v := .tuple #[.agg (ht.arr dt xt), ow]) (by simp [results, Try.results68, Sem.run_bind, Result.andThen_ok, LL.out, LA.out]) rfl ?_
        have HL := Lib.hid (show Sta W O p D [] [⟨146, 3, ow, ot.length + 1, routs ot ++ Ho.rcells ⟨n, 4, false⟩⟩] (rhrows ht dt xt []) wd1 from ST7.out.out (List.Sublist.cons _ (List.Sublist.refl _)) (inC (at_ 0 rfl) (inC (at_ 1 rfl) (inC (at_ 2 rfl) (inC (at_ 3 rfl) inN)))))
        rw [routs_snoc] at HL
        exact ⟨xt, _, rfl, by rw [List.length_append]; exact HL.out⟩

end Go.Proofs.Ytdpnkikaciigoaa
