/-
  StreamPieces: its third loop.
-/
import Derived.Test.YtkclgemkeifbaaaSPTailA
namespace Go.Proofs.Ytkclgemkeifbaaa
open Go.RowKit Go.Proofs

set_option maxHeartbeats 16000000 in
set_option maxRecDepth 100000 in
theorem sp_tail3 {a : Option Addr} {cap : Nat} {l : List SMsg} {ac : Option Addr} {capc : Nat} {cuts : List Int} {s : List UInt8} {W : World} {i1 : TypeInfo}
    (hi1 : Try.prog.info? 30 = some i1)
    (hi2 : i1.zero = some msgZeroV)
    (hi3 : i1.size = 7)
    (hi4 : i1.bytes = 104)
    (hcap : l.length ≤ cap)
    (hmax : cap ≤ 9223372036854775807)
    (hcapc : cuts.length ≤ capc)
    (hmaxc : capc ≤ 9223372036854775807) {wr : World} {u6 : Value} {u10 : Value} {u11 : Value} {u12 : Value} {u13 : Value} {u14 : Value} {u39 : Value} {u40 : Value} {u41 : Value} {u42 : Value} {u43 : Value} {u44 : Value} {u45 : Value} {u46 : Value} {u47 : Value} {u48 : Value} {u49 : Value} {u50 : Value} {u51 : Value} {u52 : Value} {u53 : Value} {u54 : Value} {u55 : Value} {u56 : Value} {u57 : Value} {u58 : Value} {u59 : Value} {u60 : Value} {u61 : Value} {u62 : Value} {u63 : Value} {u64 : Value} {u65 : Value} {u66 : Value} {u67 : Value} {u68 : Value} {u69 : Value} {u70 : Value} {u71 : Value} {u72 : Value} {u73 : Value} {u74 : Value} {u75 : Value} {u76 : Value} {u77 : Value} {i : Nat} {L : List (Msg × MsgP)} {u31 : Value} {u32 : Value} {u33 : Value} {u34 : Value} {u35 : Value} {u36 : Value} {u37 : Value} {m : Nat} {J : List UInt8}
    (hJl : J.length ≤ 40) {fb : List UInt8} {wn : List Msg}
    (_HLM : Hid (List.map Prod.fst L = wn))
    (hwl : wn.length ≤ 8) {w2 : World} {w3 : World} {L3 : List (Msg × MsgP)} {a3 : Option Addr} {p3 : Nat}
    (M3 : Hid (MsgsOwn w2.heap.size w3 L3 (Value.slice a3 L3.length p3)))
    (_F3 : Hid (Gr W w3)) {qx : Nat}
    (szr : W.heap.size ≤ qx)
    (HS2 : Hid (w2.heap.size = qx + 2))
    (_SX3 : Hid (SplAt w3 qx [] 0))
    (_T3 : Hid (Fr (fun (k : Nat) => qx ≤ k) wr w3))
    (HS3 : Hid (qx + 2 ≤ w3.heap.size))
    (_HQX : Hid (wr.heap.size = qx)) {u22 : Value} {u91 : Value} {u92 : Value} {u93 : Value} {u94 : Value} {u95 : Value} {u96 : Value} {u97 : Value} {u98 : Value} {u99 : Value} {u100 : Value} {u101 : Value} {u102 : Value} {u103 : Value} {u104 : Value} {u105 : Value} {u106 : Value} {u107 : Value} {u108 : Value} {u109 : Value} {u110 : Value} {u111 : Value} {u112 : Value} {u113 : Value} {u114 : Value} {u115 : Value} {t : List UInt8} {G : List (Msg × MsgP)} {jq : Nat}
    (_HFD : Hid (feed t = (wn ++ (feed J).fst, (feed J).snd)))
    (_HL3 : Hid (List.map Prod.fst L3 = (feed t).fst))
    (_SY3 : Hid (SplAt w3 (qx + 1) (feed t).snd.fst (feed t).snd.snd)) {ag : Option Addr} {pg : Nat} {aw : Option Addr} {pw : Nat}
    (M0 : Hid (MsgsOwn W.heap.size wr L (Value.slice aw L.length pw)))
    (W3 : Hid (MsgsOwn W.heap.size w3 L (Value.slice aw L.length pw)))
    (hgl : (↑G.length : Int) = (↑L3.length : Int))
    (hlw : (↑L.length : Int) ≤ (↑L3.length : Int))
    (hb3 : (↑L3.length : Int) ≤ 1000) {u : List UInt8} {c : Int}
    (HMS : Hid (List.map Prod.fst G = List.map Prod.fst L3))
    (HWM : Hid (List.map Prod.fst L3 = List.map Prod.fst L ++ (feed J).fst))
    (HUC : Hid ((u, c) = (feed J).snd))
    (_hq0 : wr.heap.size = qx) {w5x : World}
    (ST : Hid (PcSt w3 qx t t [] G (Value.slice ag G.length pg) w5x))
    (SX : Hid (SplAt w5x qx u c))
    (_SY : Hid (SplAt w5x (qx + 1) u c))
    (F5 : Hid (Gr W w5x))
    (G5 : Hid (MsgsOwn w3.heap.size w5x G (Value.slice ag G.length pg)))
    (K5 : Hid (MsgsOwn w2.heap.size w5x L3 (Value.slice a3 L3.length p3)))
    (W5 : Hid (MsgsOwn W.heap.size w5x L (Value.slice aw L.length pw)))
    (dlt : decide (L3.length < L.length) = false) :
    Code.wp Try.prog (codeAt [1, 1, 1, 1, 1, 1, 1, 1, 1, 1, 1, 1, 1, 0, 0] ((Try.f10).body.getD .skip)) (Exit.then (fun a w => Code.wp Try.prog (codeAt [1, 1, 1, 1, 1, 1, 1, 1, 1, 1, 1, 1, 1, 0, 1] ((Try.f10).body.getD .skip)) (Exit.then (fun a w => Code.wp Try.prog (codeAt [1, 1, 1, 1, 1, 1, 1, 1, 1, 1, 1, 1, 1, 1] ((Try.f10).body.getD .skip)) (bodyPost Try.prog Try.f10 fun (e : Ending) (w' : World) => e = Ending.returned (Value.bool true) ∧ Below W.heap.size W w') a w) (bodyPost Try.prog Try.f10 fun (e : Ending) (w' : World) => e = Ending.returned (Value.bool true) ∧ Below W.heap.size W w')) a w) (Exit.then (fun a w => Code.wp Try.prog (codeAt [1, 1, 1, 1, 1, 1, 1, 1, 1, 1, 1, 1, 1, 1] ((Try.f10).body.getD .skip)) (bodyPost Try.prog Try.f10 fun (e : Ending) (w' : World) => e = Ending.returned (Value.bool true) ∧ Below W.heap.size W w') a w) (bodyPost Try.prog Try.f10 fun (e : Ending) (w' : World) => e = Ending.returned (Value.bool true) ∧ Below W.heap.size W w'))) ⟨List.toArray (Value.slice a l.length cap :: Value.slice ac cuts.length capc :: Value.string (ByteArray.mk (J.toArray)) :: undef :: undef :: undef :: u6 :: Value.string (ByteArray.mk (fb.toArray)) :: Value.slice aw L.length pw :: Value.int IntKind.i64 (↑i : Int) :: u10 :: u11 :: u12 :: u13 :: u14 :: Value.string (ByteArray.mk (t.toArray)) :: Value.pointer (some { block := qx, off := 0 }) :: Value.pointer (some { block := qx + 1, off := 0 }) :: Value.slice a3 L3.length p3 :: Value.slice ag G.length pg :: Value.string (ByteArray.mk (#[])) :: Value.int IntKind.i64 (↑jq : Int) :: u22 :: undef :: undef :: undef :: undef :: undef :: undef :: Value.bool true :: Value.bool false :: u31 :: u32 :: u33 :: u34 :: u35 :: u36 :: u37 :: Value.bool false :: u39 :: u40 :: u41 :: u42 :: u43 :: u44 :: u45 :: u46 :: u47 :: u48 :: u49 :: u50 :: u51 :: u52 :: u53 :: u54 :: u55 :: u56 :: u57 :: u58 :: u59 :: u60 :: u61 :: u62 :: u63 :: u64 :: u65 :: u66 :: u67 :: u68 :: u69 :: u70 :: u71 :: u72 :: u73 :: u74 :: u75 :: u76 :: u77 :: Value.string (ByteArray.mk (s.toArray)) :: Value.string (ByteArray.mk (s.toArray)) :: Value.int IntKind.i64 (↑s.length : Int) :: Value.int IntKind.i64 (↑m : Int) :: Value.string (ByteArray.mk (J.toArray)) :: Value.string (ByteArray.mk (fb.toArray)) :: Value.string (ByteArray.mk (J.toArray)) :: Value.string (ByteArray.mk (t.toArray)) :: Value.string (ByteArray.mk (t.toArray)) :: Value.slice a3 L3.length p3 :: Value.string (ByteArray.mk (t.toArray)) :: Value.string (ByteArray.mk (#[])) :: Value.bool false :: u91 :: u92 :: u93 :: u94 :: u95 :: u96 :: u97 :: u98 :: u99 :: u100 :: u101 :: u102 :: u103 :: u104 :: u105 :: u106 :: u107 :: u108 :: u109 :: u110 :: u111 :: u112 :: u113 :: u114 :: u115 :: Value.slice ag G.length pg :: Value.int IntKind.i64 (↑L3.length : Int) :: Value.slice a3 L3.length p3 :: Value.int IntKind.i64 (↑L3.length : Int) :: Value.bool false :: Value.bool false :: Value.slice a3 L3.length p3 :: Value.int IntKind.i64 (↑L3.length : Int) :: Value.slice aw L.length pw :: Value.int IntKind.i64 (↑L.length : Int) :: Value.bool false :: Value.bool false :: Value.bool false :: Value.int IntKind.i64 c :: Value.int IntKind.i64 c :: Value.bool false :: Value.bool false :: Value.bool false :: Value.int IntKind.i64 (↑u.length : Int) :: Value.int IntKind.i64 (↑u.length : Int) :: Value.bool false :: Value.bool false :: undef :: undef :: undef :: undef :: undef :: undef :: undef :: undef :: undef :: undef :: undef :: undef :: undef :: undef :: undef :: undef :: undef :: undef :: undef :: undef :: undef :: undef :: undef :: undef :: undef :: undef :: undef :: undef :: undef :: undef :: undef :: undef :: undef :: undef :: undef :: undef :: undef :: undef :: undef :: undef :: undef :: undef :: undef :: undef :: undef :: undef :: undef :: undef :: undef :: undef :: undef :: undef :: undef :: undef :: undef :: undef :: undef :: undef :: undef :: undef :: undef :: undef :: undef :: undef :: undef :: undef :: undef :: undef :: undef :: undef :: undef :: undef :: undef :: undef :: undef :: undef :: undef :: undef :: undef :: undef :: []), []⟩ w5x := by
  conv => arg 2; whnf
  go_wp2_with fail
  conv => arg 2; whnf
  go_wp2_with fail
  go_loopw [23] (fun jv wx => ∃ j : Nat, jv = .int .i64 j ∧ j ≤ L3.length ∧ Gr w5x wx) (fun jv _ => L3.length - (intOf jv).toNat)
  case atStart => exact ⟨0, rfl, Nat.zero_le _, Fr.refl _ _⟩
  case round =>
    obtain ⟨j, rfl, hj, fr⟩ := hrel
    have FR := Lib.hid fr
    clear fr
    by_cases hlt : j < L3.length
    case neg =>
      have hgl2 : (j : Int) = (L3.length : Int) := by omega
      have hgw : (feed J).1 = [] → (G.length : Int) = (L.length : Int) := fun h => by
        have := congrArg List.length HWM.out
        rw [h] at this
        simp at this; omega
      have HGW := Lib.hid hgw
      have SXR := Lib.hid (SX.out.keep FR.out (fun h => h))
      have FE := Lib.hid (Gr.trans F5.out FR.out)
      clear hgw SX _SY G5 K5 W5 HMS HWM FR M0 _T3 _SX3 _SY3 M3 _HL3 W3 _F3 _HLM ST _HFD F5
      have zJ := mk_size J
      clear _hq0 _HQX
      go_wp2_with fail
      exact sp_tail4 hi1 hi2 hi3 hi4 hcap hmax hcapc hmaxc hJl hwl szr HS2 HS3 hgl hlw hb3 HUC dlt hj hlt hgl2 HGW SXR FE zJ
    have hg1 : j < G.length := by omega
    have he : G[j].1 = (L3[j]'hlt).1 := by
      have h := congrArg (fun l => l[j]?) HMS.out
      simp only [List.getElem?_map] at h
      rw [List.getElem?_eq_getElem hg1, List.getElem?_eq_getElem hlt] at h
      simpa using h
    obtain ⟨b1, o1, e1, c1⟩ := (G5.out.keep FR.out (fun _ h => h.elim)).get j hg1
    obtain ⟨b3, o3, e3, c3⟩ := (K5.out.keep FR.out (fun _ h => h.elim)).get j hlt
    have A1 := Lib.hid ((G5.out.keep FR.out (fun _ h => h.elim)).own _ (List.getElem_mem hg1)).at
    have A3 := Lib.hid ((K5.out.keep FR.out (fun _ h => h.elim)).own _ (List.getElem_mem hlt)).at
    haveI : Nonempty (WC (Fr (fun _ => False) wr)) := ⟨⟨wr, Fr.refl _ _⟩⟩
    by_cases h1 : j < L.length
    · have he2 : L[j].1 = (L3[j]'hlt).1 := by
        have h := congrArg (fun l => l[j]?) HWM.out
        simp only [List.getElem?_append, List.length_map, List.getElem?_map] at h
        rw [if_pos h1, List.getElem?_eq_getElem h1, List.getElem?_eq_getElem hlt] at h
        simpa using h.symm
      obtain ⟨b2, o2, e2, c2⟩ := (W5.out.keep FR.out (fun _ h => h.elim)).get j h1
      have A2 := Lib.hid ((W5.out.keep FR.out (fun _ h => h.elim)).own _ (List.getElem_mem h1)).at
      generalize G[j] = x1 at *
      generalize L3[j]'hlt = x3 at *
      generalize L[j] = x2 at *
      obtain ⟨m1, q1⟩ := x1
      obtain ⟨m3, q3⟩ := x3
      obtain ⟨m2, q2⟩ := x2
      simp only at he he2
      subst he
      subst he2
      subst e1
      subst e3
      subst e2
      have y0 : ∀ z : WC (Fr (fun _ => False) wr), z.val.cell? ⟨b1, o1 + j * 7, none⟩ = some (.int .i64 m2.kind) := fun z => z.ok.cell (by have := c1 0 _ rfl; simpa using this) (fun h => h)
      have y1 : ∀ z : WC (Fr (fun _ => False) wr), z.val.cell? ⟨b1, o1 + j * 7 + 1, none⟩ = some (.int .i64 m2.node) := fun z => z.ok.cell (by have := c1 1 _ rfl; simpa using this) (fun h => h)
      have y2 : ∀ z : WC (Fr (fun _ => False) wr), z.val.cell? ⟨b1, o1 + j * 7 + 2, none⟩ = some (.int .i64 m2.walk) := fun z => z.ok.cell (by have := c1 2 _ rfl; simpa using this) (fun h => h)
      have y3 : ∀ z : WC (Fr (fun _ => False) wr), z.val.cell? ⟨b1, o1 + j * 7 + 3, none⟩ = some (.bool m2.high) := fun z => z.ok.cell (by have := c1 3 _ rfl; simpa using this) (fun h => h)
      have y4 : ∀ z : WC (Fr (fun _ => False) wr), z.val.cell? ⟨b1, o1 + j * 7 + 4, none⟩ = some (.slice q1.a1 m2.nodes.length q1.c1) := fun z => z.ok.cell (by have := c1 4 _ rfl; simpa using this) (fun h => h)
      have y5 : ∀ z : WC (Fr (fun _ => False) wr), z.val.cell? ⟨b1, o1 + j * 7 + 5, none⟩ = some (.slice q1.a2 m2.ids.length q1.c2) := fun z => z.ok.cell (by have := c1 5 _ rfl; simpa using this) (fun h => h)
      have y6 : ∀ z : WC (Fr (fun _ => False) wr), z.val.cell? ⟨b1, o1 + j * 7 + 6, none⟩ = some (.slice q1.a3 m2.recs.length q1.c3) := fun z => z.ok.cell (by have := c1 6 _ rfl; simpa using this) (fun h => h)
      have v0 : ∀ z : WC (Fr (fun _ => False) wr), z.val.cell? ⟨b3, o3 + j * 7, none⟩ = some (.int .i64 m2.kind) := fun z => z.ok.cell (by have := c3 0 _ rfl; simpa using this) (fun h => h)
      have v1 : ∀ z : WC (Fr (fun _ => False) wr), z.val.cell? ⟨b3, o3 + j * 7 + 1, none⟩ = some (.int .i64 m2.node) := fun z => z.ok.cell (by have := c3 1 _ rfl; simpa using this) (fun h => h)
      have v2 : ∀ z : WC (Fr (fun _ => False) wr), z.val.cell? ⟨b3, o3 + j * 7 + 2, none⟩ = some (.int .i64 m2.walk) := fun z => z.ok.cell (by have := c3 2 _ rfl; simpa using this) (fun h => h)
      have v3 : ∀ z : WC (Fr (fun _ => False) wr), z.val.cell? ⟨b3, o3 + j * 7 + 3, none⟩ = some (.bool m2.high) := fun z => z.ok.cell (by have := c3 3 _ rfl; simpa using this) (fun h => h)
      have v4 : ∀ z : WC (Fr (fun _ => False) wr), z.val.cell? ⟨b3, o3 + j * 7 + 4, none⟩ = some (.slice q3.a1 m2.nodes.length q3.c1) := fun z => z.ok.cell (by have := c3 4 _ rfl; simpa using this) (fun h => h)
      have v5 : ∀ z : WC (Fr (fun _ => False) wr), z.val.cell? ⟨b3, o3 + j * 7 + 5, none⟩ = some (.slice q3.a2 m2.ids.length q3.c2) := fun z => z.ok.cell (by have := c3 5 _ rfl; simpa using this) (fun h => h)
      have v6 : ∀ z : WC (Fr (fun _ => False) wr), z.val.cell? ⟨b3, o3 + j * 7 + 6, none⟩ = some (.slice q3.a3 m2.recs.length q3.c3) := fun z => z.ok.cell (by have := c3 6 _ rfl; simpa using this) (fun h => h)
      have x0 : ∀ z : WC (Fr (fun _ => False) wr), z.val.cell? ⟨b2, o2 + j * 7, none⟩ = some (.int .i64 m2.kind) := fun z => z.ok.cell (by have := c2 0 _ rfl; simpa using this) (fun h => h)
      have x1 : ∀ z : WC (Fr (fun _ => False) wr), z.val.cell? ⟨b2, o2 + j * 7 + 1, none⟩ = some (.int .i64 m2.node) := fun z => z.ok.cell (by have := c2 1 _ rfl; simpa using this) (fun h => h)
      have x2 : ∀ z : WC (Fr (fun _ => False) wr), z.val.cell? ⟨b2, o2 + j * 7 + 2, none⟩ = some (.int .i64 m2.walk) := fun z => z.ok.cell (by have := c2 2 _ rfl; simpa using this) (fun h => h)
      have x3 : ∀ z : WC (Fr (fun _ => False) wr), z.val.cell? ⟨b2, o2 + j * 7 + 3, none⟩ = some (.bool m2.high) := fun z => z.ok.cell (by have := c2 3 _ rfl; simpa using this) (fun h => h)
      have x4 : ∀ z : WC (Fr (fun _ => False) wr), z.val.cell? ⟨b2, o2 + j * 7 + 4, none⟩ = some (.slice q2.a1 m2.nodes.length q2.c1) := fun z => z.ok.cell (by have := c2 4 _ rfl; simpa using this) (fun h => h)
      have x5 : ∀ z : WC (Fr (fun _ => False) wr), z.val.cell? ⟨b2, o2 + j * 7 + 5, none⟩ = some (.slice q2.a2 m2.ids.length q2.c2) := fun z => z.ok.cell (by have := c2 5 _ rfl; simpa using this) (fun h => h)
      have x6 : ∀ z : WC (Fr (fun _ => False) wr), z.val.cell? ⟨b2, o2 + j * 7 + 6, none⟩ = some (.slice q2.a3 m2.recs.length q2.c3) := fun z => z.ok.cell (by have := c2 6 _ rfl; simpa using this) (fun h => h)
      have CS : Hid (∀ w', Gr wr w' → Calls Try.prog 20 #[m2.val q1, m2.val q3] w' fun e w2 => e = .returned (.bool true) ∧ Gr w' w2) := Lib.hid (fun w' f => (same_any m2 m2 q1 q3 w' (A1.out.keep f) (A3.out.keep f)).mono (fun e w h => ⟨by simpa using h.1, h.2⟩))
      have CT : Hid (∀ w', Gr wr w' → Calls Try.prog 20 #[m2.val q1, m2.val q2] w' fun e w2 => e = .returned (.bool true) ∧ Gr w' w2) := Lib.hid (fun w' f => (same_any m2 m2 q1 q2 w' (A1.out.keep f) (A2.out.keep f)).mono (fun e w h => ⟨by simpa using h.1, h.2⟩))
      clear c1 c3 c2 A1 A3 A2
      have d1 : decide (j < L.length) = true := decide_eq_true h1
      go_wp2_with fail
      refine wp_region_plan [8, 24] (Plan.seq (List.range 28) .done) (fun w' => ∃ z : WC (Fr (fun _ => False) wr), w' = z.val) (by kernel_rfl) (by kernel_rfl) (fun c a w d v h => by cases d <;> exact h) (fun c a w d v h => by cases d <;> exact h) ⟨⟨wr.drew, (Fr.refl _ _).drew⟩, rfl⟩ ?_
      simp only [Plan.seq, List.range, List.range.loop, List.foldr]
      repeat (refine wpV_q (by simp only [List.getElem?_toArray, List.getElem?_cons_succ, List.getElem?_cons_zero] <;> rfl) (by rfl) (by rfl) ?_; go_big_quiet_step (exact rfl); refine wpQuiet_nil ?_)
      refine wpV_e (by simp only [List.getElem?_toArray, List.getElem?_cons_succ, List.getElem?_cons_zero] <;> rfl) (by rfl) ?_
      go_wp2_with fail
      refine (CS.out _ (Fr.refl _ _).drew).mono ?_
      rintro e w6 ⟨rfl, f6⟩
      have F6 : Hid (Gr wr w6) := Lib.hid (Gr.trans (Fr.refl _ _).drew f6)
      clear f6
      go_wp2_with fail
      refine ⟨⟨⟨w6, F6.out⟩, rfl⟩, ?_⟩
      repeat (refine wpV_q (by simp only [List.getElem?_toArray, List.getElem?_cons_succ, List.getElem?_cons_zero] <;> rfl) (by rfl) (by rfl) ?_; go_big_quiet_step (exact rfl); refine wpQuiet_nil ?_)
      refine wpV_e (by simp only [List.getElem?_toArray, List.getElem?_cons_succ, List.getElem?_cons_zero] <;> rfl) (by rfl) ?_
      go_wp2_with fail
      refine (CT.out _ F6.out).mono ?_
      rintro e w7 ⟨rfl, f7⟩
      have F7 : Hid (Gr wr w7) := Lib.hid (Gr.trans F6.out f7)
      clear f7
      go_wp2_with fail
      refine ⟨⟨⟨w7, F7.out⟩, rfl⟩, ?_⟩
      repeat (refine wpV_q (by simp only [List.getElem?_toArray, List.getElem?_cons_succ, List.getElem?_cons_zero] <;> rfl) (by rfl) (by rfl) ?_; go_big_quiet_step (exact rfl); refine wpQuiet_nil ?_)
      refine wpV_done ?_
      clear d1 y0 y1 y2 y3 y4 y5 y6 v0 v1 v2 v3 v4 v5 v6 x0 x1 x2 x3 x4 x5 x6 CS CT
      go_wp2_with fail
      go_roundw
      case rel => exact ⟨j + 1, by go_num, by omega, Gr.trans FR.out F7.out⟩
      case measure => simp [intOf]; omega
    · generalize G[j] = x1 at *
      generalize L3[j]'hlt = x3 at *
      obtain ⟨m1, q1⟩ := x1
      obtain ⟨m3, q3⟩ := x3
      simp only at he
      subst he
      subst e1
      subst e3
      have y0 : ∀ z : WC (Fr (fun _ => False) wr), z.val.cell? ⟨b1, o1 + j * 7, none⟩ = some (.int .i64 m1.kind) := fun z => z.ok.cell (by have := c1 0 _ rfl; simpa using this) (fun h => h)
      have y1 : ∀ z : WC (Fr (fun _ => False) wr), z.val.cell? ⟨b1, o1 + j * 7 + 1, none⟩ = some (.int .i64 m1.node) := fun z => z.ok.cell (by have := c1 1 _ rfl; simpa using this) (fun h => h)
      have y2 : ∀ z : WC (Fr (fun _ => False) wr), z.val.cell? ⟨b1, o1 + j * 7 + 2, none⟩ = some (.int .i64 m1.walk) := fun z => z.ok.cell (by have := c1 2 _ rfl; simpa using this) (fun h => h)
      have y3 : ∀ z : WC (Fr (fun _ => False) wr), z.val.cell? ⟨b1, o1 + j * 7 + 3, none⟩ = some (.bool m1.high) := fun z => z.ok.cell (by have := c1 3 _ rfl; simpa using this) (fun h => h)
      have y4 : ∀ z : WC (Fr (fun _ => False) wr), z.val.cell? ⟨b1, o1 + j * 7 + 4, none⟩ = some (.slice q1.a1 m1.nodes.length q1.c1) := fun z => z.ok.cell (by have := c1 4 _ rfl; simpa using this) (fun h => h)
      have y5 : ∀ z : WC (Fr (fun _ => False) wr), z.val.cell? ⟨b1, o1 + j * 7 + 5, none⟩ = some (.slice q1.a2 m1.ids.length q1.c2) := fun z => z.ok.cell (by have := c1 5 _ rfl; simpa using this) (fun h => h)
      have y6 : ∀ z : WC (Fr (fun _ => False) wr), z.val.cell? ⟨b1, o1 + j * 7 + 6, none⟩ = some (.slice q1.a3 m1.recs.length q1.c3) := fun z => z.ok.cell (by have := c1 6 _ rfl; simpa using this) (fun h => h)
      have v0 : ∀ z : WC (Fr (fun _ => False) wr), z.val.cell? ⟨b3, o3 + j * 7, none⟩ = some (.int .i64 m1.kind) := fun z => z.ok.cell (by have := c3 0 _ rfl; simpa using this) (fun h => h)
      have v1 : ∀ z : WC (Fr (fun _ => False) wr), z.val.cell? ⟨b3, o3 + j * 7 + 1, none⟩ = some (.int .i64 m1.node) := fun z => z.ok.cell (by have := c3 1 _ rfl; simpa using this) (fun h => h)
      have v2 : ∀ z : WC (Fr (fun _ => False) wr), z.val.cell? ⟨b3, o3 + j * 7 + 2, none⟩ = some (.int .i64 m1.walk) := fun z => z.ok.cell (by have := c3 2 _ rfl; simpa using this) (fun h => h)
      have v3 : ∀ z : WC (Fr (fun _ => False) wr), z.val.cell? ⟨b3, o3 + j * 7 + 3, none⟩ = some (.bool m1.high) := fun z => z.ok.cell (by have := c3 3 _ rfl; simpa using this) (fun h => h)
      have v4 : ∀ z : WC (Fr (fun _ => False) wr), z.val.cell? ⟨b3, o3 + j * 7 + 4, none⟩ = some (.slice q3.a1 m1.nodes.length q3.c1) := fun z => z.ok.cell (by have := c3 4 _ rfl; simpa using this) (fun h => h)
      have v5 : ∀ z : WC (Fr (fun _ => False) wr), z.val.cell? ⟨b3, o3 + j * 7 + 5, none⟩ = some (.slice q3.a2 m1.ids.length q3.c2) := fun z => z.ok.cell (by have := c3 5 _ rfl; simpa using this) (fun h => h)
      have v6 : ∀ z : WC (Fr (fun _ => False) wr), z.val.cell? ⟨b3, o3 + j * 7 + 6, none⟩ = some (.slice q3.a3 m1.recs.length q3.c3) := fun z => z.ok.cell (by have := c3 6 _ rfl; simpa using this) (fun h => h)
      have CS : Hid (∀ w', Gr wr w' → Calls Try.prog 20 #[m1.val q1, m1.val q3] w' fun e w2 => e = .returned (.bool true) ∧ Gr w' w2) := Lib.hid (fun w' f => (same_any m1 m1 q1 q3 w' (A1.out.keep f) (A3.out.keep f)).mono (fun e w h => ⟨by simpa using h.1, h.2⟩))
      clear c1 c3 A1 A3
      have d1 : decide (j < L.length) = false := decide_eq_false h1
      go_wp2_with fail
      refine wp_region_plan [8, 24] (Plan.seq (List.range 28) .done) (fun w' => ∃ z : WC (Fr (fun _ => False) wr), w' = z.val) (by kernel_rfl) (by kernel_rfl) (fun c a w d v h => by cases d <;> exact h) (fun c a w d v h => by cases d <;> exact h) ⟨⟨wr.drew, (Fr.refl _ _).drew⟩, rfl⟩ ?_
      simp only [Plan.seq, List.range, List.range.loop, List.foldr]
      repeat (refine wpV_q (by simp only [List.getElem?_toArray, List.getElem?_cons_succ, List.getElem?_cons_zero] <;> rfl) (by rfl) (by rfl) ?_; go_big_quiet_step (exact rfl); refine wpQuiet_nil ?_)
      refine wpV_e (by simp only [List.getElem?_toArray, List.getElem?_cons_succ, List.getElem?_cons_zero] <;> rfl) (by rfl) ?_
      go_wp2_with fail
      refine (CS.out _ (Fr.refl _ _).drew).mono ?_
      rintro e w6 ⟨rfl, f6⟩
      have F6 : Hid (Gr wr w6) := Lib.hid (Gr.trans (Fr.refl _ _).drew f6)
      clear f6
      go_wp2_with fail
      refine ⟨⟨⟨w6, F6.out⟩, rfl⟩, ?_⟩
      repeat (refine wpV_q (by simp only [List.getElem?_toArray, List.getElem?_cons_succ, List.getElem?_cons_zero] <;> rfl) (by rfl) (by rfl) ?_; go_big_quiet_step (exact rfl); refine wpQuiet_nil ?_)
      refine wpV_e (by simp only [List.getElem?_toArray, List.getElem?_cons_succ, List.getElem?_cons_zero] <;> rfl) (by rfl) ?_
      go_wp2_with fail
      refine ⟨⟨⟨w6, F6.out⟩, rfl⟩, ?_⟩
      repeat (refine wpV_q (by simp only [List.getElem?_toArray, List.getElem?_cons_succ, List.getElem?_cons_zero] <;> rfl) (by rfl) (by rfl) ?_; go_big_quiet_step (exact rfl); refine wpQuiet_nil ?_)
      refine wpV_done ?_
      clear d1 y0 y1 y2 y3 y4 y5 y6 v0 v1 v2 v3 v4 v5 v6 CS
      go_wp2_with fail
      go_roundw
      case rel => exact ⟨j + 1, by go_num, by omega, Gr.trans FR.out F6.out⟩
      case measure => simp [intOf]; omega

end Go.Proofs.Ytkclgemkeifbaaa
