/-
  Messages between nodes as plain data: which may be, their bytes, and what bytes parse as. No program in sight.
-/
import Derived.Test.YtkclgemkeifbaaaPackL
namespace Go.Proofs.Ytkclgemkeifbaaa

structure MId where
  key : ByteArray
  ver : Int
deriving DecidableEq
structure MRec where
  key : ByteArray
  ver : Int
  origin : Int
  age : Int
  gone : Bool
  data : ByteArray
deriving DecidableEq
structure Msg where
  kind : Int
  node : Int
  walk : Int
  high : Bool
  nodes : List Int
  ids : List MId
  recs : List MRec
deriving DecidableEq

def inR (n lo hi : Int) : Bool := decide (lo ≤ n) && decide (n ≤ hi)
theorem inR_iff {n lo hi : Int} : inR n lo hi = true ↔ lo ≤ n ∧ n ≤ hi := by simp [inR]
def MRec.right (x : MRec) : Bool := decide (x.key.size ≤ 64) && decide (x.data.size ≤ 64) && inR x.origin 1 65535 && inR x.age 0 65535
def Msg.may (m : Msg) : Bool :=
  inR m.kind 1 14 && inR m.node 0 65535 && inR m.walk 0 15 && decide (m.nodes.length ≤ 64) && decide (m.ids.length ≤ 64) && decide (m.recs.length ≤ 16) &&
    m.nodes.all (fun n => inR n 1 65535) && m.ids.all (fun x => decide (x.key.size ≤ 64)) && m.recs.all MRec.right

/-- the numbers of versions are numbers of 64 bits -/
def Msg.fits (m : Msg) : Prop := (∀ x ∈ m.ids, 0 ≤ x.ver ∧ x.ver < 18446744073709551616) ∧ (∀ x ∈ m.recs, 0 ≤ x.ver ∧ x.ver < 18446744073709551616)

def numB (k : Nat) (n : Int) : List UInt8 := bigEnd k n.toNat
def txB (s : ByteArray) : List UInt8 := UInt8.ofNat s.size :: s.data.toList
def bitN (b : Bool) : Int := if b then 1 else 0
def MId.enc (x : MId) : List UInt8 := txB x.key ++ numB 8 x.ver
def MRec.enc (x : MRec) : List UInt8 := txB x.key ++ (numB 8 x.ver ++ (numB 2 x.origin ++ (numB 2 x.age ++ (numB 1 (bitN x.gone) ++ txB x.data))))
def Msg.enc (m : Msg) : List UInt8 :=
  numB 1 m.kind ++ (numB 2 m.node ++ (numB 1 m.walk ++ (numB 1 (bitN m.high) ++ (numB 1 m.nodes.length ++ (m.nodes.flatMap (numB 2) ++
    (numB 1 m.ids.length ++ (m.ids.flatMap MId.enc ++ (numB 1 m.recs.length ++ m.recs.flatMap MRec.enc))))))))

theorem numB_length (k : Nat) (n : Int) : (numB k n).length = k := bigEnd_length _ _
theorem txB_length (s : ByteArray) : (txB s).length = s.size + 1 := by simp [txB]
theorem MId.enc_length (x : MId) : x.enc.length = x.key.size + 9 := by simp [MId.enc, numB_length, txB_length] <;> omega
theorem MRec.enc_length (x : MRec) : x.enc.length = x.key.size + x.data.size + 15 := by simp [MRec.enc, numB_length, txB_length] <;> omega

/-! what bytes parse as -/

inductive PR (α : Type) where
  | ok (x : α) (rest : List UInt8)
  | ref (c : Int)

def PR.bind {α β : Type} (x : PR α) (f : α → List UInt8 → PR β) : PR β := match x with | .ok a l => f a l | .ref c => .ref c

def pNum (k : Nat) (l : List UInt8) : PR Int := if l.length < k then .ref 2 else .ok (getNum (l.take k) : Nat) (l.drop k)
def pRaw (n : Nat) (l : List UInt8) : PR ByteArray := if l.length < n then .ref 2 else .ok ⟨(l.take n).toArray⟩ (l.drop n)
def pBool (l : List UInt8) : PR Bool := (pNum 1 l).bind fun n l => if 1 < n then .ref 4 else .ok (n == 1) l
def pCount (most : Int) (l : List UInt8) : PR Int := (pNum 1 l).bind fun n l => if most < n then .ref 4 else .ok n l
def pText (most : Nat) (l : List UInt8) : PR ByteArray := (pNum 1 l).bind fun n l => (pRaw n.toNat l).bind fun s l => if most < s.size then .ref 4 else .ok s l
def pMany {α : Type} (p : List UInt8 → PR α) : Nat → List UInt8 → PR (List α)
  | 0, l => .ok [] l
  | n + 1, l => (p l).bind fun x l => (pMany p n l).bind fun r l => .ok (x :: r) l
def pList {α : Type} (most : Int) (p : List UInt8 → PR α) (l : List UInt8) : PR (List α) := (pCount most l).bind fun c l => pMany p c.toNat l
def pId (l : List UInt8) : PR MId := (pText 64 l).bind fun k l => (pNum 8 l).bind fun v l => .ok ⟨k, v⟩ l
def pRec (l : List UInt8) : PR MRec :=
  (pText 64 l).bind fun k l => (pNum 8 l).bind fun v l => (pNum 2 l).bind fun o l => (pNum 2 l).bind fun a l => (pBool l).bind fun g l => (pText 64 l).bind fun d l => .ok ⟨k, v, o, a, g, d⟩ l
def pMsg (l : List UInt8) : PR Msg :=
  (pNum 1 l).bind fun k l => (pNum 2 l).bind fun n l => (pNum 1 l).bind fun wk l => (pBool l).bind fun h l =>
    (pList 64 (pNum 2) l).bind fun ns l => (pList 64 pId l).bind fun is l => (pList 16 pRec l).bind fun rs l => .ok ⟨k, n, wk, h, ns, is, rs⟩ l

/-- a reader of one thing: what it takes is the thing's own bytes e, its answer does not look behind them, and it lacks bytes where they are cut -/
def Tight {α : Type} (p : List UInt8 → PR α) (enc : α → List UInt8) (V : α → Prop) : Prop :=
  (∀ l x r, p l = .ok x r → l = enc x ++ r ∧ V x) ∧ (∀ x r, V x → p (enc x ++ r) = .ok x r) ∧ (∀ x k, V x → k < (enc x).length → p ((enc x).take k) = .ref 2)
    ∧ ∀ l c, p l = .ref c → c = 2 ∨ c = 4

theorem bigEnd_getNum_rev (l : List UInt8) : bigEnd l.reverse.length (getNum l.reverse) = l.reverse := by
  induction l with
  | nil => rfl
  | cons b t ih =>
    rw [List.reverse_cons]
    generalize t.reverse = l at *
    have e : ∀ (k n : Nat), bigEnd (k + 1) n = bigEnd k (n / 256) ++ [UInt8.ofNat n] := by
      intro k
      induction k with
      | zero => intro n; simp [bigEnd]
      | succ k ihk =>
        intro n
        have h1 : bigEnd (k + 1 + 1) n = UInt8.ofNat (n / 256 ^ (k + 1)) :: bigEnd (k + 1) n := rfl
        have h2 : bigEnd (k + 1) (n / 256) = UInt8.ofNat (n / 256 / 256 ^ k) :: bigEnd k (n / 256) := rfl
        rw [h1, ihk, h2, Nat.div_div_eq_div_mul, Nat.pow_succ, Nat.mul_comm (256 ^ k) 256]
        rfl
    rw [List.length_append, List.length_singleton, e, getNum_snoc]
    have h1 : (256 * getNum l + b.toNat) / 256 = getNum l := by have := b.toNat_lt; omega
    have h2 : UInt8.ofNat (256 * getNum l + b.toNat) = b := by
      apply UInt8.toNat_inj.1
      rw [UInt8.toNat_ofNat']
      have := b.toNat_lt
      omega
    rw [h1, h2, ih]
theorem bigEnd_getNum (l : List UInt8) : bigEnd l.length (getNum l) = l := by
  have := bigEnd_getNum_rev l.reverse
  rwa [List.reverse_reverse] at this

theorem tight_num (k : Nat) : Tight (pNum k) (numB k) (fun n => 0 ≤ n ∧ n < 256 ^ k) := by
  refine ⟨fun l x r h => ?_, fun x r h => ?_, fun x j h hj => ?_, fun l c h => ?_⟩
  · unfold pNum at h
    split at h
    · cases h
    · cases h
      have hl : (l.take k).length = k := by simp; omega
      refine ⟨?_, by omega, ?_⟩
      · have := bigEnd_getNum (l.take k)
        rw [hl] at this
        simp only [numB, Int.toNat_natCast]
        rw [this, List.take_append_drop]
      · have := getNum_lt (l.take k)
        rw [hl] at this
        have h2 := Int.ofNat_lt.2 this
        rw [Int.natCast_pow] at h2
        exact h2
  · unfold pNum
    rw [if_neg (by simp [numB_length])]
    have h1 : (numB k x ++ r).take k = numB k x := by rw [List.take_append_of_le_length (by simp [numB_length]), List.take_of_length_le (by simp [numB_length])]
    have h2 : (numB k x ++ r).drop k = r := by rw [List.drop_append_of_le_length (by simp [numB_length]), List.drop_of_length_le (by simp [numB_length])]; rfl
    rw [h1, h2]
    have h3 : getNum (numB k x) = x.toNat := getNum_bigEnd (by have := h.2; have h0 := h.1; obtain ⟨m, rfl⟩ := Int.eq_ofNat_of_zero_le h0; simp only [Int.toNat_natCast]; apply Int.ofNat_lt.1; rw [Int.natCast_pow]; exact this)
    rw [h3, Int.toNat_of_nonneg h.1]
  · unfold pNum
    rw [numB_length] at hj
    rw [if_pos (by simp [numB_length]; omega)]
  · unfold pNum at h
    split at h
    · cases h; exact .inl rfl
    · cases h

theorem tight_bind {α β : Type} {p : List UInt8 → PR α} {enc : α → List UInt8} {V : α → Prop} (hp : Tight p enc V) {q : α → List UInt8 → PR β} {encq : β → List UInt8} {W : β → Prop} {g : β → α}
    (hq : ∀ a, V a → Tight (q a) encq (fun b => W b ∧ g b = a)) : Tight (fun l => (p l).bind q) (fun b => enc (g b) ++ encq b) (fun b => W b ∧ V (g b)) := by
  obtain ⟨p1, p2, p3, p4⟩ := hp
  refine ⟨fun l x r h => ?_, fun x r h => ?_, fun x k h hk => ?_, fun l c h => ?_⟩
  · change (p l).bind q = _ at h
    cases hl : p l with
    | ref c => rw [hl] at h; cases h
    | ok a l' =>
      rw [hl] at h
      obtain ⟨rfl, hv⟩ := p1 l a l' hl
      obtain ⟨e1, e2, e3⟩ := (hq a hv).1 l' x r h
      show enc a ++ l' = (enc (g x) ++ encq x) ++ r ∧ W x ∧ V (g x)
      rw [e3, e1, List.append_assoc]
      exact ⟨rfl, e2, hv⟩
  · show PR.bind (p ((enc (g x) ++ encq x) ++ r)) q = _
    rw [List.append_assoc, p2 _ _ h.2]
    exact (hq _ h.2).2.1 x r ⟨h.1, rfl⟩
  · show PR.bind (p ((enc (g x) ++ encq x).take k)) q = _
    by_cases hk1 : k < (enc (g x)).length
    · rw [List.take_append_of_le_length (by omega), p3 _ k h.2 hk1]; rfl
    · have e : (enc (g x) ++ encq x).take k = enc (g x) ++ (encq x).take (k - (enc (g x)).length) := by
        rw [List.take_append, List.take_of_length_le (by omega)]
      rw [e, p2 _ _ h.2]
      refine (hq _ h.2).2.2.1 x _ ⟨h.1, rfl⟩ ?_
      simp at hk; omega
  · change (p l).bind q = _ at h
    cases hl : p l with
    | ref c' => rw [hl] at h; cases h; exact p4 l _ hl
    | ok a l' =>
      rw [hl] at h
      exact (hq a (p1 l a l' hl).2).2.2.2 l' c h

theorem tight_ok {α : Type} (x : α) {V : α → Prop} (h : V x) : Tight (fun l => .ok x l) (fun _ => []) (fun b => V b ∧ b = x) := by
  refine ⟨fun l y r h' => ?_, fun y r h' => ?_, fun y k h' hk => ?_, fun l c h' => ?_⟩
  · cases h'; exact ⟨rfl, h, rfl⟩
  · rw [h'.2]; rfl
  · simp at hk
  · cases h'
theorem Tight.congr {α : Type} {p p' : List UInt8 → PR α} {enc enc' : α → List UInt8} {V V' : α → Prop} (h : Tight p enc V) (hp : ∀ l, p' l = p l) (he : ∀ x, enc' x = enc x) (hV : ∀ x, V' x ↔ V x) : Tight p' enc' V' := by
  have e1 : p' = p := funext hp
  have e2 : enc' = enc := funext he
  have e3 : V' = V := funext fun x => propext (hV x)
  rw [e1, e2, e3]; exact h

theorem tight_bool : Tight pBool (fun b => numB 1 (bitN b)) (fun _ => True) := by
  obtain ⟨p1, p2, p3, p4⟩ := tight_num 1
  refine ⟨fun l x r h => ?_, fun x r _ => ?_, fun x k _ hk => ?_, fun l c h => ?_⟩
  · unfold pBool at h
    cases hl : pNum 1 l with
    | ref c => rw [hl] at h; cases h
    | ok n l' =>
      rw [hl] at h
      simp only [PR.bind] at h
      obtain ⟨rfl, h0, _⟩ := p1 l n l' hl
      split at h
      · cases h
      · cases h
        refine ⟨?_, trivial⟩
        congr 2
        have : n = 0 ∨ n = 1 := by omega
        rcases this with rfl | rfl <;> rfl
  · unfold pBool
    rw [p2 _ _ (by cases x <;> simp [bitN])]
    cases x <;> rfl
  · unfold pBool
    rw [p3 _ k (by cases x <;> simp [bitN]) hk]; rfl
  · unfold pBool at h
    cases hl : pNum 1 l with
    | ref c' => rw [hl] at h; cases h; exact p4 l _ hl
    | ok n l' =>
      rw [hl] at h
      simp only [PR.bind] at h
      split at h
      · cases h; exact .inr rfl
      · cases h

theorem tight_count (most : Int) (hm : most ≤ 255) : Tight (pCount most) (numB 1) (fun n => 0 ≤ n ∧ n ≤ most) := by
  obtain ⟨p1, p2, p3, p4⟩ := tight_num 1
  refine ⟨fun l x r h => ?_, fun x r hx => ?_, fun x k hx hk => ?_, fun l c h => ?_⟩
  · unfold pCount at h
    cases hl : pNum 1 l with
    | ref c => rw [hl] at h; cases h
    | ok n l' =>
      rw [hl] at h
      simp only [PR.bind] at h
      obtain ⟨rfl, h0, _⟩ := p1 l n l' hl
      split at h
      · cases h
      · cases h
        exact ⟨rfl, h0, by omega⟩
  · unfold pCount
    rw [p2 _ _ ⟨hx.1, by have := hx.2; omega⟩]
    simp only [PR.bind]
    rw [if_neg (by omega)]
  · unfold pCount
    rw [p3 _ k ⟨hx.1, by have := hx.2; omega⟩ hk]; rfl
  · unfold pCount at h
    cases hl : pNum 1 l with
    | ref c' => rw [hl] at h; cases h; exact p4 l _ hl
    | ok n l' =>
      rw [hl] at h
      simp only [PR.bind] at h
      split at h
      · cases h; exact .inr rfl
      · cases h

theorem size_mk (l : List UInt8) : (ByteArray.mk l.toArray).size = l.length := mk_size l
theorem mk_toList (s : ByteArray) : (⟨s.data.toList.toArray⟩ : ByteArray) = s := by simp

theorem tight_text (most : Nat) (hm : most ≤ 255) : Tight (pText most) txB (fun s => s.size ≤ most) := by
  have hn : ∀ s : ByteArray, s.size ≤ most → txB s = numB 1 s.size ++ s.data.toList := by
    intro s hs
    have : s.size % 256 = s.size := Nat.mod_eq_of_lt (by omega)
    simp [txB, numB, bigEnd]
  obtain ⟨p1, p2, p3, p4⟩ := tight_num 1
  refine ⟨fun l x r h => ?_, fun x r hx => ?_, fun x k hx hk => ?_, fun l c h => ?_⟩
  · unfold pText at h
    cases hl : pNum 1 l with
    | ref c => rw [hl] at h; cases h
    | ok n l' =>
      rw [hl] at h
      simp only [PR.bind, pRaw] at h
      obtain ⟨rfl, h0, _⟩ := p1 l n l' hl
      by_cases h1 : l'.length < n.toNat
      · rw [if_pos h1] at h; cases h
      · rw [if_neg h1] at h
        simp only at h
        split at h
        · cases h
        · rename_i h2
          cases h
          rw [size_mk] at h2
          have h3 : (ByteArray.mk (l'.take n.toNat).toArray).size ≤ most := by rw [size_mk]; omega
          refine ⟨?_, h3⟩
          rw [hn _ h3, List.append_assoc]
          congr 1
          · congr 1
            rw [size_mk, List.length_take]; omega
          · simp [List.take_append_drop]
  · unfold pText
    rw [hn x hx, List.append_assoc, p2 _ _ (by constructor <;> omega)]
    simp only [PR.bind, pRaw, Int.toNat_natCast]
    have hlen : x.data.toList.length = x.size := by simp
    rw [if_neg (by simp)]
    simp only [List.take_append_of_le_length (Nat.le_of_eq hlen.symm), List.take_of_length_le (Nat.le_of_eq hlen), mk_toList]
    rw [if_neg (by omega), List.drop_append_of_le_length (Nat.le_of_eq hlen.symm), List.drop_of_length_le (Nat.le_of_eq hlen)]
    rfl
  · unfold pText
    rw [hn x hx] at hk ⊢
    by_cases hk1 : k < 1
    · rw [List.take_append_of_le_length (by rw [numB_length]; omega), p3 _ k (by constructor <;> omega) (by rw [numB_length]; exact hk1)]; rfl
    · have e : (numB 1 (x.size : Int) ++ x.data.toList).take k = numB 1 (x.size : Int) ++ x.data.toList.take (k - 1) := by
        rw [List.take_append, List.take_of_length_le (by rw [numB_length]; omega), numB_length]
      rw [e, p2 _ _ (by constructor <;> omega)]
      simp only [PR.bind, pRaw, Int.toNat_natCast]
      simp [numB_length] at hk
      rw [if_pos (by simp; omega)]
  · unfold pText at h
    cases hl : pNum 1 l with
    | ref c' => rw [hl] at h; cases h; exact p4 l _ hl
    | ok n l' =>
      rw [hl] at h
      simp only [PR.bind, pRaw] at h
      by_cases h1 : l'.length < n.toNat
      · rw [if_pos h1] at h; cases h; exact .inl rfl
      · rw [if_neg h1] at h
        simp only at h
        split at h
        · cases h; exact .inr rfl
        · cases h

theorem tight_many {α : Type} {p : List UInt8 → PR α} {enc : α → List UInt8} {V : α → Prop} (hp : Tight p enc V) (n : Nat) : Tight (pMany p n) (fun l => l.flatMap enc) (fun l => (∀ x ∈ l, V x) ∧ l.length = n) := by
  induction n with
  | zero =>
    refine ⟨fun l x r h => ?_, fun x r h => ?_, fun x k h hk => ?_, fun l c h => ?_⟩
    · cases h; exact ⟨rfl, by simp, rfl⟩
    · have : x = [] := List.eq_nil_of_length_eq_zero h.2
      subst this; rfl
    · have : x = [] := List.eq_nil_of_length_eq_zero h.2
      subst this; simp at hk
    · cases h
  | succ n ih =>
    obtain ⟨p1, p2, p3, p4⟩ := hp
    obtain ⟨q1, q2, q3, q4⟩ := ih
    refine ⟨fun l x r h => ?_, fun x r h => ?_, fun x k h hk => ?_, fun l c h => ?_⟩
    · unfold pMany at h
      cases hl : p l with
      | ref c => rw [hl] at h; cases h
      | ok a l' =>
        rw [hl] at h
        simp only [PR.bind] at h
        cases hl2 : pMany p n l' with
        | ref c => rw [hl2] at h; cases h
        | ok xs l'' =>
          rw [hl2] at h
          cases h
          obtain ⟨rfl, hv⟩ := p1 l a l' hl
          obtain ⟨rfl, hv2, hln⟩ := q1 l' xs _ hl2
          refine ⟨by simp, ?_, by simp [hln]⟩
          intro y hy
          rcases List.mem_cons.1 hy with rfl | hy
          · exact hv
          · exact hv2 y hy
    · match x, h with
      | a :: xs, h =>
        unfold pMany
        simp only
        rw [List.flatMap_cons, List.append_assoc, p2 a _ (h.1 a (by simp))]
        simp only [PR.bind]
        rw [q2 xs r ⟨fun y hy => h.1 y (by simp [hy]), by simpa using h.2⟩]
    · match x, h with
      | a :: xs, h =>
        have ha := h.1 a (by simp)
        have has : (∀ x ∈ xs, V x) ∧ xs.length = n := ⟨fun y hy => h.1 y (by simp [hy]), by simpa using h.2⟩
        unfold pMany
        simp only at hk ⊢
        rw [List.flatMap_cons] at hk ⊢
        by_cases hk1 : k < (enc a).length
        · rw [List.take_append_of_le_length (by omega), p3 a k ha hk1]; rfl
        · rw [List.take_append, List.take_of_length_le (by omega), p2 a _ ha]
          simp only [PR.bind]
          rw [q3 xs _ has (by simp at hk ⊢; omega)]
    · unfold pMany at h
      cases hl : p l with
      | ref c' => rw [hl] at h; cases h; exact p4 l _ hl
      | ok a l' =>
        rw [hl] at h
        simp only [PR.bind] at h
        cases hl2 : pMany p n l' with
        | ref c' => rw [hl2] at h; cases h; exact q4 l' _ hl2
        | ok xs l'' => rw [hl2] at h; cases h

theorem tight_list {α : Type} (most : Nat) (hm : most ≤ 255) {p : List UInt8 → PR α} {enc : α → List UInt8} {V : α → Prop} (hp : Tight p enc V) :
    Tight (pList most p) (fun l => numB 1 l.length ++ l.flatMap enc) (fun l => l.length ≤ most ∧ ∀ x ∈ l, V x) :=
  (tight_bind (g := fun l : List α => (l.length : Int)) (W := fun l => ∀ x ∈ l, V x) (tight_count most (by omega)) (fun c hc => (tight_many hp c.toNat).congr (fun _ => rfl) (fun _ => rfl) (fun l => by
    constructor
    · rintro ⟨a, b⟩; exact ⟨a, by omega⟩
    · rintro ⟨a, b⟩; exact ⟨a, by omega⟩))).congr (fun _ => rfl) (fun _ => rfl) (fun l => by
    constructor
    · rintro ⟨a, b⟩; exact ⟨b, by omega, by omega⟩
    · rintro ⟨a, _, b⟩; exact ⟨by omega, a⟩)

theorem tight_step {α β : Type} {p : List UInt8 → PR α} {enc : α → List UInt8} {V : α → Prop} (g : β → α) (E : β → Prop) (hp : Tight p enc V) {q : α → List UInt8 → PR β} {encq : β → List UInt8} {W : β → Prop}
    (hq : ∀ a, V a → Tight (q a) encq (fun b => W b ∧ g b = a ∧ E b)) : Tight (fun l => (p l).bind q) (fun b => enc (g b) ++ encq b) (fun b => (V (g b) ∧ W b) ∧ E b) :=
  (tight_bind (W := fun b => W b ∧ E b) hp (fun a ha => (hq a ha).congr (fun _ => rfl) (fun _ => rfl) (fun x => by rw [and_assoc, and_congr_right_iff]; intro _; exact and_comm))).congr (fun _ => rfl) (fun _ => rfl) (fun x => by
    constructor
    · rintro ⟨⟨a, b⟩, c⟩; exact ⟨⟨b, c⟩, a⟩
    · rintro ⟨⟨a, b⟩, c⟩; exact ⟨⟨c, a⟩, b⟩)
theorem tight_end {β : Type} (x : β) (E : β → Prop) (h : ∀ b, E b ↔ b = x) : Tight (fun l => .ok x l) (fun _ => []) (fun b => True ∧ E b) :=
  (tight_ok x (V := fun _ => True) trivial).congr (fun _ => rfl) (fun _ => rfl) (fun b => by rw [h])

def MId.good (x : MId) : Prop := x.key.size ≤ 64 ∧ 0 ≤ x.ver ∧ x.ver < 256 ^ 8
def MRec.good (x : MRec) : Prop := x.key.size ≤ 64 ∧ (0 ≤ x.ver ∧ x.ver < 256 ^ 8) ∧ (0 ≤ x.origin ∧ x.origin < 256 ^ 2) ∧ (0 ≤ x.age ∧ x.age < 256 ^ 2) ∧ x.data.size ≤ 64

theorem tight_id : Tight pId MId.enc MId.good :=
  (tight_step (β := MId) (fun x : MId => x.key) (fun _ => True) (tight_text 64 (by decide)) (fun k _ =>
    tight_step (fun x : MId => x.ver) (fun x : MId => x.key = k ∧ True) (tight_num 8) (fun v _ =>
      tight_end ⟨k, v⟩ (fun x : MId => x.ver = v ∧ x.key = k ∧ True) (fun b => by cases b; simp [and_comm])))).congr (fun _ => rfl) (fun x => by simp [MId.enc]) (fun x => by simp [MId.good])
theorem tight_rec : Tight pRec MRec.enc MRec.good :=
  (tight_step (β := MRec) (fun x : MRec => x.key) (fun _ => True) (tight_text 64 (by decide)) (fun k _ =>
    tight_step (fun x : MRec => x.ver) (fun x : MRec => x.key = k ∧ True) (tight_num 8) (fun v _ =>
    tight_step (fun x : MRec => x.origin) (fun x : MRec => x.ver = v ∧ x.key = k ∧ True) (tight_num 2) (fun o _ =>
    tight_step (fun x : MRec => x.age) (fun x : MRec => x.origin = o ∧ x.ver = v ∧ x.key = k ∧ True) (tight_num 2) (fun a _ =>
    tight_step (fun x : MRec => x.gone) (fun x : MRec => x.age = a ∧ x.origin = o ∧ x.ver = v ∧ x.key = k ∧ True) tight_bool (fun g _ =>
    tight_step (fun x : MRec => x.data) (fun x : MRec => x.gone = g ∧ x.age = a ∧ x.origin = o ∧ x.ver = v ∧ x.key = k ∧ True) (tight_text 64 (by decide)) (fun d _ =>
      tight_end ⟨k, v, o, a, g, d⟩ (fun x : MRec => x.data = d ∧ x.gone = g ∧ x.age = a ∧ x.origin = o ∧ x.ver = v ∧ x.key = k ∧ True) (fun b => by
        cases b; simp only [MRec.mk.injEq, and_true]
        constructor
        · rintro ⟨a, b, c, d, e, f⟩; exact ⟨f, e, d, c, b, a⟩
        · rintro ⟨a, b, c, d, e, f⟩; exact ⟨f, e, d, c, b, a⟩)))))))).congr (fun _ => rfl) (fun x => by simp [MRec.enc]) (fun x => by simp [MRec.good, and_assoc])

def Msg.good (m : Msg) : Prop :=
  (0 ≤ m.kind ∧ m.kind < 256 ^ 1) ∧ (0 ≤ m.node ∧ m.node < 256 ^ 2) ∧ (0 ≤ m.walk ∧ m.walk < 256 ^ 1) ∧ m.nodes.length ≤ 64 ∧ (∀ n ∈ m.nodes, 0 ≤ n ∧ n < 256 ^ 2) ∧ m.ids.length ≤ 64 ∧ (∀ x ∈ m.ids, x.good) ∧ m.recs.length ≤ 16 ∧ ∀ x ∈ m.recs, x.good

theorem tight_msg : Tight pMsg Msg.enc Msg.good :=
  (tight_step (β := Msg) (fun x : Msg => x.kind) (fun _ => True) (tight_num 1) (fun k _ =>
    tight_step (fun x : Msg => x.node) (fun x : Msg => x.kind = k ∧ True) (tight_num 2) (fun n _ =>
    tight_step (fun x : Msg => x.walk) (fun x : Msg => x.node = n ∧ x.kind = k ∧ True) (tight_num 1) (fun wk _ =>
    tight_step (fun x : Msg => x.high) (fun x : Msg => x.walk = wk ∧ x.node = n ∧ x.kind = k ∧ True) tight_bool (fun h _ =>
    tight_step (fun x : Msg => x.nodes) (fun x : Msg => x.high = h ∧ x.walk = wk ∧ x.node = n ∧ x.kind = k ∧ True) (tight_list 64 (by decide) (tight_num 2)) (fun ns _ =>
    tight_step (fun x : Msg => x.ids) (fun x : Msg => x.nodes = ns ∧ x.high = h ∧ x.walk = wk ∧ x.node = n ∧ x.kind = k ∧ True) (tight_list 64 (by decide) tight_id) (fun is _ =>
    tight_step (fun x : Msg => x.recs) (fun x : Msg => x.ids = is ∧ x.nodes = ns ∧ x.high = h ∧ x.walk = wk ∧ x.node = n ∧ x.kind = k ∧ True) (tight_list 16 (by decide) tight_rec) (fun rs _ =>
      tight_end ⟨k, n, wk, h, ns, is, rs⟩ (fun x : Msg => x.recs = rs ∧ x.ids = is ∧ x.nodes = ns ∧ x.high = h ∧ x.walk = wk ∧ x.node = n ∧ x.kind = k ∧ True) (fun b => by
        cases b; simp only [Msg.mk.injEq, and_true]
        constructor
        · rintro ⟨a, b, c, d, e, f, g⟩; exact ⟨g, f, e, d, c, b, a⟩
        · rintro ⟨a, b, c, d, e, f, g⟩; exact ⟨g, f, e, d, c, b, a⟩))))))))).congr (fun _ => rfl) (fun x => by simp [Msg.enc]) (fun x => by
    simp only [Msg.good, and_true]
    constructor
    · rintro ⟨a, b, c, d, e, f, g, i, j⟩
      exact ⟨a, b, c, trivial, ⟨d, e⟩, ⟨f, g⟩, ⟨i, j⟩⟩
    · rintro ⟨a, b, c, _, ⟨d, e⟩, ⟨f, g⟩, ⟨i, j⟩⟩
      exact ⟨a, b, c, d, e, f, g, i, j⟩)

theorem Msg.may_parts {m : Msg} (h : m.may = true) : (1 ≤ m.kind ∧ m.kind ≤ 14) ∧ (0 ≤ m.node ∧ m.node ≤ 65535) ∧ (0 ≤ m.walk ∧ m.walk ≤ 15) ∧ m.nodes.length ≤ 64 ∧ m.ids.length ≤ 64 ∧ m.recs.length ≤ 16 ∧
    (∀ n ∈ m.nodes, 1 ≤ n ∧ n ≤ 65535) ∧ (∀ x ∈ m.ids, x.key.size ≤ 64) ∧ ∀ x ∈ m.recs, x.key.size ≤ 64 ∧ x.data.size ≤ 64 ∧ (1 ≤ x.origin ∧ x.origin ≤ 65535) ∧ (0 ≤ x.age ∧ x.age ≤ 65535) := by
  unfold Msg.may at h
  simp only [Bool.and_eq_true, decide_eq_true_eq, List.all_eq_true, inR_iff, MRec.right, and_assoc] at h
  obtain ⟨a1, a2, b1, b2, c1, c2, d, e, f, g, i, j⟩ := h
  exact ⟨⟨a1, a2⟩, ⟨b1, b2⟩, ⟨c1, c2⟩, d, e, f, g, i, fun x hx => by obtain ⟨k1, k2, k3, k4, k5, k6⟩ := j x hx; exact ⟨k1, k2, ⟨k3, k4⟩, k5, k6⟩⟩
theorem Msg.good_of_may {m : Msg} (h : m.may = true) (hf : m.fits) : m.good := by
  obtain ⟨a, b, c, d, e, f, g, i, j⟩ := Msg.may_parts h
  refine ⟨⟨by omega, by omega⟩, ⟨by omega, by omega⟩, ⟨by omega, by omega⟩, d, fun n hn => ?_, e, fun x hx => ?_, f, fun x hx => ?_⟩
  · have := g n hn; omega
  · have := hf.1 x hx
    exact ⟨i x hx, this.1, by omega⟩
  · have h1 := hf.2 x hx
    obtain ⟨k1, k2, k3, k4⟩ := j x hx
    exact ⟨k1, ⟨h1.1, by omega⟩, ⟨by omega, by omega⟩, ⟨by omega, by omega⟩, k2⟩
theorem Msg.fits_of_good {m : Msg} (h : m.good) : m.fits := by
  obtain ⟨_, _, _, _, _, _, h1, _, h2⟩ := h
  exact ⟨fun x hx => ⟨(h1 x hx).2.1, by have := (h1 x hx).2.2; omega⟩, fun x hx => ⟨(h2 x hx).2.1.1, by have := (h2 x hx).2.1.2; omega⟩⟩

/-- what Decode says of bytes -/
def Msg.dec (l : List UInt8) : PR Msg :=
  if 4096 < l.length then .ref 3 else match pMsg l with
    | .ref c => .ref c
    | .ok m r => if r = [] then (if m.may = true then .ok m [] else .ref 4) else .ref 3

theorem Msg.dec_enc {m : Msg} (h : m.may = true) (hf : m.fits) (hl : m.enc.length ≤ 4096) : Msg.dec m.enc = .ok m [] := by
  have := tight_msg.2.1 m [] (Msg.good_of_may h hf)
  rw [List.append_nil] at this
  unfold Msg.dec
  rw [if_neg (by omega), this]
  simp [h]
theorem Msg.dec_ok {l : List UInt8} {m : Msg} {r : List UInt8} (h : Msg.dec l = .ok m r) : l = m.enc ∧ m.may = true ∧ m.fits ∧ l.length ≤ 4096 ∧ r = [] := by
  unfold Msg.dec at h
  split at h
  · cases h
  · rename_i hl
    cases hp : pMsg l with
    | ref c => rw [hp] at h; cases h
    | ok m' r' =>
      rw [hp] at h
      simp only at h
      split at h
      · rename_i hr
        split at h
        · rename_i hm
          cases h
          obtain ⟨e, hg⟩ := tight_msg.1 _ _ _ hp
          rw [hr, List.append_nil] at e
          exact ⟨e, hm, Msg.fits_of_good hg, by omega, rfl⟩
        · cases h
      · cases h
theorem Msg.dec_ref {l : List UInt8} {c : Int} (h : Msg.dec l = .ref c) : c = 2 ∨ c = 3 ∨ c = 4 := by
  unfold Msg.dec at h
  split at h
  · cases h; exact .inr (.inl rfl)
  · cases hp : pMsg l with
    | ref c' =>
      rw [hp] at h
      cases h
      rcases tight_msg.2.2.2 _ _ hp with h | h
      · exact .inl h
      · exact .inr (.inr h)
    | ok m' r' =>
      rw [hp] at h
      simp only at h
      split at h
      · split at h
        · cases h
        · cases h; exact .inr (.inr rfl)
      · cases h; exact .inr (.inl rfl)
theorem Msg.dec_cut {m : Msg} (h : m.may = true) (hf : m.fits) (hl : m.enc.length ≤ 4096) (k : Nat) (hk : k < m.enc.length) : Msg.dec (m.enc.take k) = .ref 2 := by
  unfold Msg.dec
  rw [if_neg (by simp; omega), tight_msg.2.2.1 m k (Msg.good_of_may h hf) hk]
theorem Msg.dec_more {m : Msg} (h : m.may = true) (hf : m.fits) (b : UInt8) (r : List UInt8) : Msg.dec (m.enc ++ b :: r) = .ref 3 := by
  unfold Msg.dec
  split
  · rfl
  · rw [tight_msg.2.1 m _ (Msg.good_of_may h hf)]
    simp
theorem Msg.enc_inj {a b : Msg} (ha : a.may = true) (ha' : a.fits) (hb : b.may = true) (hb' : b.fits) (h : a.enc = b.enc) : a = b := by
  have h1 := tight_msg.2.1 a [] (Msg.good_of_may ha ha')
  have h2 := tight_msg.2.1 b [] (Msg.good_of_may hb hb')
  rw [h, h2] at h1
  cases h1; rfl

/-- what Encode says of a message: its bytes, or an error's number -/
def Msg.code (m : Msg) : Int := if m.may = true then (if 4096 < m.enc.length then 3 else 0) else 1
def Msg.out (m : Msg) : ByteArray := if m.code = 0 then ⟨m.enc.toArray⟩ else ⟨#[]⟩
theorem Msg.code_zero {m : Msg} : m.code = 0 ↔ m.may = true ∧ m.enc.length ≤ 4096 := by
  unfold Msg.code
  split
  · split
    · simp; omega
    · simp_all
  · simp_all
end Go.Proofs.Ytkclgemkeifbaaa
