/- Plain law of the bytes of messages: the encoders as functions on data, and that none is a beginning of another (no program in sight). -/
namespace Go.Codec

abbrev Bytes := List UInt8

/-- an encoder tells its data from whatever stands behind it -/
def Pf {α : Type} (ok : α → Prop) (enc : α → Bytes) : Prop := ∀ a b r s, ok a → ok b → enc a ++ r = enc b ++ s → a = b ∧ r = s

theorem flat_take {α : Type} {xs : List (List α)} {k : Nat} {x : List α} (h : xs[k]? = some x) :
    (xs.take (k + 1)).flatten = (xs.take k).flatten ++ x ∧ (xs.take (k + 1)).flatten.length = (xs.take k).flatten.length + x.length ∧ (xs.take (k + 1)).flatten.length ≤ xs.flatten.length := by
  have hk := (List.getElem?_eq_some_iff.1 h).1
  have h1 : (xs.take (k + 1)).flatten = (xs.take k).flatten ++ x := by
    rw [List.take_succ_eq_append_getElem hk, List.flatten_append, (List.getElem?_eq_some_iff.1 h).2]; simp
  refine ⟨h1, by rw [h1, List.length_append], ?_⟩
  have h2 : xs.flatten = (xs.take (k + 1)).flatten ++ (xs.drop (k + 1)).flatten := by rw [← List.flatten_append, List.take_append_drop]
  rw [h2, List.length_append]; omega
theorem flat_all {α : Type} {xs : List (List α)} {k : Nat} (h : xs.length ≤ k) : (xs.take k).flatten = xs.flatten := by rw [List.take_of_length_le h]
theorem flat_le {α : Type} (xs : List (List α)) (k : Nat) : (xs.take k).flatten.length ≤ xs.flatten.length := by
  have h2 : xs.flatten = (xs.take k).flatten ++ (xs.drop k).flatten := by rw [← List.flatten_append, List.take_append_drop]
  rw [h2, List.length_append]; omega

/-! ### numbers -/
/-- the bytes of u, the greatest first, none for 0; f: fuel -/
def be : Nat → Nat → Bytes
  | 0, _ => []
  | f + 1, u => if u = 0 then [] else be f (u / 256) ++ [UInt8.ofNat u]

/-- the value of bytes, the greatest first -/
def val (l : Bytes) : Nat := l.foldl (fun u c => u * 256 + c.toNat) 0

theorem val_snoc (l : Bytes) (c : UInt8) : val (l ++ [c]) = val l * 256 + c.toNat := by simp [val]

theorem val_be (f u : Nat) (h : u < 256 ^ f) : val (be f u) = u := by
  induction f generalizing u with
  | zero => simp at h; subst h; rfl
  | succ f ih =>
    unfold be
    by_cases hu : u = 0
    · simp [hu, val]
    · rw [if_neg hu, val_snoc, ih (u / 256) (by rw [Nat.pow_succ] at h; omega)]
      have : (UInt8.ofNat u).toNat = u % 256 := by simp
      omega

theorem be_length (f u : Nat) : (be f u).length ≤ f := by
  induction f generalizing u with
  | zero => simp [be]
  | succ f ih =>
    unfold be
    split
    · simp
    · have := ih (u / 256); simp; omega

theorem be_pos (f u : Nat) (h : 0 < u) : 0 < (be (f + 1) u).length := by
  unfold be; rw [if_neg (by omega)]; simp

/-- a number's form -/
def encInt (n : Int) : Bytes :=
  if 0 ≤ n ∧ n < 100 then [UInt8.ofNat (100 + n.toNat)]
  else if n < 0 ∧ -50 ≤ n then [UInt8.ofNat ((50 + n).toNat)]
  else if 0 ≤ n then UInt8.ofNat (199 + (be 8 n.toNat).length) :: be 8 n.toNat
  else UInt8.ofNat (207 + (be 8 (-1 - n).toNat).length) :: be 8 (-1 - n).toNat

theorem be_step (f u : Nat) (hu : 0 < u) : be (f + 1) u = be f (u / 256) ++ [UInt8.ofNat u] := by
  rw [be, if_neg (by omega)]
theorem be_zero (f : Nat) : be f 0 = [] := by cases f <;> simp [be]
theorem enc_one (n : Int) (h0 : 0 ≤ n) (h1 : n < 100) : encInt n = [UInt8.ofNat (100 + n).toNat] := by
  unfold encInt; rw [if_pos ⟨h0, h1⟩]; congr 2; omega
theorem enc_low (n : Int) (h0 : n < 0) (h1 : -50 ≤ n) : encInt n = [UInt8.ofNat (50 + n).toNat] := by
  unfold encInt; rw [if_neg (by omega), if_pos ⟨h0, h1⟩]
theorem enc_up (n : Int) (h0 : 100 ≤ n) (bs : Bytes) (h : be 8 n.toNat = bs) (hl : bs.length ≤ 8) : [UInt8.ofNat (199 + (UInt8.ofNat bs.length).toNat)] ++ bs = encInt n := by
  unfold encInt; rw [if_neg (by omega), if_neg (by omega), if_pos (by omega), h]
  have : (UInt8.ofNat bs.length).toNat = bs.length := by simp; omega
  rw [this]; rfl
theorem enc_dn (n : Int) (h0 : n < -50) (bs : Bytes) (h : be 8 (-1 - n).toNat = bs) (hl : bs.length ≤ 8) : [UInt8.ofNat (207 + (UInt8.ofNat bs.length).toNat)] ++ bs = encInt n := by
  unfold encInt; rw [if_neg (by omega), if_neg (by omega), if_neg (by omega), h]
  have : (UInt8.ofNat bs.length).toNat = bs.length := by simp; omega
  rw [this]; rfl

def okInt (n : Int) : Prop := -9223372036854775808 ≤ n ∧ n ≤ 9223372036854775807

/-- the number that stands in front, and what is behind it (of a form that was written) -/
def decInt : Bytes → Int × Bytes
  | [] => (0, [])
  | c :: l =>
    if c.toNat < 50 then ((c.toNat : Int) - 50, l)
    else if c.toNat < 200 then ((c.toNat : Int) - 100, l)
    else if c.toNat ≤ 207 then ((val (l.take (c.toNat - 199)) : Int), l.drop (c.toNat - 199))
    else (-1 - (val (l.take (c.toNat - 207)) : Int), l.drop (c.toNat - 207))

theorem u8_toNat (k : Nat) (h : k < 256) : (UInt8.ofNat k).toNat = k := by simp; omega

theorem decInt_enc (n : Int) (r : Bytes) (h : okInt n) : decInt (encInt n ++ r) = (n, r) := by
  unfold okInt at h
  unfold encInt
  by_cases h1 : 0 ≤ n ∧ n < 100
  · rw [if_pos h1]
    simp only [List.singleton_append, decInt]
    rw [u8_toNat _ (by omega), if_neg (by omega), if_pos (by omega)]
    simp; omega
  · rw [if_neg h1]
    by_cases h2 : n < 0 ∧ -50 ≤ n
    · rw [if_pos h2]
      simp only [List.singleton_append, decInt]
      rw [u8_toNat _ (by omega), if_pos (by omega)]
      simp; omega
    · rw [if_neg h2]
      by_cases h3 : 0 ≤ n
      · rw [if_pos h3]
        have hl := be_length 8 n.toNat
        have hp : 0 < (be 8 n.toNat).length := be_pos 7 n.toNat (by omega)
        simp only [List.cons_append, decInt]
        rw [u8_toNat _ (by omega), if_neg (by omega), if_neg (by omega), if_pos (by omega)]
        have e : 199 + (be 8 n.toNat).length - 199 = (be 8 n.toNat).length := by omega
        rw [e, List.take_left, List.drop_left, val_be 8 _ (by have : (256 : Nat) ^ 8 = 18446744073709551616 := by decide
                                                              omega)]
        simp; omega
      · rw [if_neg h3]
        have hl := be_length 8 (-1 - n).toNat
        have hp : 0 < (be 8 (-1 - n).toNat).length := be_pos 7 (-1 - n).toNat (by omega)
        simp only [List.cons_append, decInt]
        rw [u8_toNat _ (by omega), if_neg (by omega), if_neg (by omega), if_neg (by omega)]
        have e : 207 + (be 8 (-1 - n).toNat).length - 207 = (be 8 (-1 - n).toNat).length := by omega
        rw [e, List.take_left, List.drop_left, val_be 8 _ (by have : (256 : Nat) ^ 8 = 18446744073709551616 := by decide
                                                              omega)]
        simp; omega

theorem encInt_length (n : Int) : 1 ≤ (encInt n).length ∧ (encInt n).length ≤ 9 := by
  unfold encInt
  have h1 := be_length 8 n.toNat
  have h2 := be_length 8 (-1 - n).toNat
  split
  · simp
  · split
    · simp
    · split <;> simp <;> omega

theorem pf_int : Pf okInt encInt := by
  intro a b r s ha hb h
  have h1 := decInt_enc a r ha
  rw [h, decInt_enc b s hb] at h1
  simp at h1
  exact ⟨h1.1.symm, h1.2.symm⟩

/-! ### texts, lists -/
def encText (s : ByteArray) : Bytes := encInt s.size ++ s.data.toList

def okText (s : ByteArray) : Prop := s.size ≤ 9223372036854775807

theorem ba_ext {s t : ByteArray} (h : s.data.toList = t.data.toList) : s = t := by
  cases s with | mk s => cases t with | mk t => congr 1; exact Array.toList_inj.1 h

theorem pf_text : Pf okText encText := by
  intro a b r s ha hb h
  unfold encText at h
  rw [List.append_assoc, List.append_assoc] at h
  unfold okText at ha hb
  have h1 := pf_int _ _ _ _ (by unfold okInt; omega) (by unfold okInt; omega) h
  have hl : a.data.toList.length = b.data.toList.length := by
    have := h1.1
    have e : a.size = b.size := by omega
    have ea : a.size = a.data.toList.length := by show a.data.size = _; exact (Array.length_toList).symm
    have eb : b.size = b.data.toList.length := by show b.data.size = _; exact (Array.length_toList).symm
    omega
  have h2 := List.append_inj h1.2 hl
  exact ⟨ba_ext h2.1, h2.2⟩

def encList {α : Type} (enc : α → Bytes) (l : List α) : Bytes := encInt l.length ++ l.flatMap enc

theorem flatMap_inj {α : Type} {ok : α → Prop} {enc : α → Bytes} (h : Pf ok enc) : ∀ (l m : List α) (r s : Bytes), l.length = m.length → (∀ a ∈ l, ok a) → (∀ a ∈ m, ok a) →
    l.flatMap enc ++ r = m.flatMap enc ++ s → l = m ∧ r = s
  | [], [], r, s, _, _, _, e => ⟨rfl, by simpa using e⟩
  | [], _ :: _, _, _, hl, _, _, _ => by simp at hl
  | _ :: _, [], _, _, hl, _, _, _ => by simp at hl
  | a :: l, b :: m, r, s, hl, ha, hb, e => by
    simp only [List.flatMap_cons, List.append_assoc] at e
    obtain ⟨h1, h2⟩ := h _ _ _ _ (ha a (by simp)) (hb b (by simp)) e
    obtain ⟨h3, h4⟩ := flatMap_inj h l m r s (by simpa using hl) (fun x hx => ha x (by simp [hx])) (fun x hx => hb x (by simp [hx])) h2
    exact ⟨by rw [h1, h3], h4⟩

def okList {α : Type} (ok : α → Prop) (l : List α) : Prop := l.length ≤ 9223372036854775807 ∧ ∀ a ∈ l, ok a

theorem pf_list {α : Type} {ok : α → Prop} {enc : α → Bytes} (h : Pf ok enc) : Pf (okList ok) (encList enc) := by
  intro a b r s ha hb e
  unfold encList at e
  rw [List.append_assoc, List.append_assoc] at e
  have hla := ha.1
  have hlb := hb.1
  have h1 := pf_int _ _ _ _ (by unfold okInt; omega) (by unfold okInt; omega) e
  exact flatMap_inj h a b r s (by have := h1.1; omega) ha.2 hb.2 h1.2

/-! ### pieces of messages: nested pairs, as their fields stand -/
abbrev Fn := Int × Int × ByteArray
abbrev Node := Int × Int × List Int × Fn × ByteArray × Int × Int
abbrev Move := Int × Int × Int × Int × Fn
abbrev Delta := List Int × List Node × List Move
abbrev Rec := Int × ByteArray
abbrev Lim := Int × Int × Int × Int
abbrev Time := Int × Int × Lim
abbrev Place := Int × Int
abbrev Change := Place × Time × Int
abbrev Entry := Int × Int × ByteArray × Int
abbrev Msg := Int × Int × Place × Time × List Rec × List Change × Delta × Int × List Entry × Bool × Int

def encFn (f : Fn) : Bytes := encInt f.1 ++ (encInt f.2.1 ++ encText f.2.2)
def encNode (n : Node) : Bytes := encInt n.1 ++ (encInt n.2.1 ++ (encList encInt n.2.2.1 ++ (encFn n.2.2.2.1 ++ (encText n.2.2.2.2.1 ++ (encInt n.2.2.2.2.2.1 ++ encInt n.2.2.2.2.2.2)))))
def encMove (m : Move) : Bytes := encInt m.1 ++ (encInt m.2.1 ++ (encInt m.2.2.1 ++ (encInt m.2.2.2.1 ++ encFn m.2.2.2.2)))
def encDelta (d : Delta) : Bytes := encList encInt d.1 ++ (encList encNode d.2.1 ++ encList encMove d.2.2)
def encRec (r : Rec) : Bytes := encInt r.1 ++ encText r.2
def encLim (l : Lim) : Bytes := encInt l.1 ++ (encInt l.2.1 ++ (encInt l.2.2.1 ++ encInt l.2.2.2))
def encTime (t : Time) : Bytes := encInt t.1 ++ (encInt t.2.1 ++ encLim t.2.2)
def encPlace (p : Place) : Bytes := encInt p.1 ++ encInt p.2
def encChange (c : Change) : Bytes := encPlace c.1 ++ (encTime c.2.1 ++ encInt c.2.2)
def encEntry (x : Entry) : Bytes := encInt x.1 ++ (encInt x.2.1 ++ (encText x.2.2.1 ++ encInt x.2.2.2))
def b01 (b : Bool) : Int := if b then 1 else 0
def encMsg (m : Msg) : Bytes :=
  encInt m.1 ++ (encInt m.2.1 ++ (encPlace m.2.2.1 ++ (encTime m.2.2.2.1 ++ (encList encRec m.2.2.2.2.1 ++ (encList encChange m.2.2.2.2.2.1 ++ (encDelta m.2.2.2.2.2.2.1 ++ (encInt m.2.2.2.2.2.2.2.1 ++
    (encList encEntry m.2.2.2.2.2.2.2.2.1 ++ (encInt (b01 m.2.2.2.2.2.2.2.2.2.1) ++ encInt m.2.2.2.2.2.2.2.2.2.2)))))))))

theorem pf_pair {α β : Type} {ok : α → Prop} {ok' : β → Prop} {enc : α → Bytes} {enc' : β → Bytes} (h : Pf ok enc) (h' : Pf ok' enc') : Pf (fun x : α × β => ok x.1 ∧ ok' x.2) (fun x => enc x.1 ++ enc' x.2) := by
  intro a b r s ⟨a1, a2⟩ ⟨b1, b2⟩ e
  simp only [List.append_assoc] at e
  obtain ⟨e1, e⟩ := h _ _ _ _ a1 b1 e
  obtain ⟨e2, e⟩ := h' _ _ _ _ a2 b2 e
  exact ⟨Prod.ext e1 e2, e⟩

theorem okb (b : Bool) : okInt (b01 b) := by cases b <;> simp [b01, okInt]
theorem b01_inj {a b : Bool} (h : b01 a = b01 b) : a = b := by cases a <;> cases b <;> simp_all [b01]
theorem pf_bool : Pf (fun _ : Bool => True) (fun b => encInt (b01 b)) := fun a b r s _ _ e => by
  obtain ⟨e1, e⟩ := pf_int _ _ _ _ (okb a) (okb b) e
  exact ⟨b01_inj e1, e⟩

def okFn (f : Fn) : Prop := okInt f.1 ∧ okInt f.2.1 ∧ okText f.2.2
def okNode (n : Node) : Prop := okInt n.1 ∧ okInt n.2.1 ∧ okList okInt n.2.2.1 ∧ okFn n.2.2.2.1 ∧ okText n.2.2.2.2.1 ∧ okInt n.2.2.2.2.2.1 ∧ okInt n.2.2.2.2.2.2
def okMove (m : Move) : Prop := okInt m.1 ∧ okInt m.2.1 ∧ okInt m.2.2.1 ∧ okInt m.2.2.2.1 ∧ okFn m.2.2.2.2
def okDelta (d : Delta) : Prop := okList okInt d.1 ∧ okList okNode d.2.1 ∧ okList okMove d.2.2
def okRec (r : Rec) : Prop := okInt r.1 ∧ okText r.2
def okLim (l : Lim) : Prop := okInt l.1 ∧ okInt l.2.1 ∧ okInt l.2.2.1 ∧ okInt l.2.2.2
def okTime (t : Time) : Prop := okInt t.1 ∧ okInt t.2.1 ∧ okLim t.2.2
def okPlace (p : Place) : Prop := okInt p.1 ∧ okInt p.2
def okChange (c : Change) : Prop := okPlace c.1 ∧ okTime c.2.1 ∧ okInt c.2.2
def okEntry (x : Entry) : Prop := okInt x.1 ∧ okInt x.2.1 ∧ okText x.2.2.1 ∧ okInt x.2.2.2
def okMsg (m : Msg) : Prop :=
  okInt m.1 ∧ okInt m.2.1 ∧ okPlace m.2.2.1 ∧ okTime m.2.2.2.1 ∧ okList okRec m.2.2.2.2.1 ∧ okList okChange m.2.2.2.2.2.1 ∧ okDelta m.2.2.2.2.2.2.1 ∧ okInt m.2.2.2.2.2.2.2.1 ∧
    okList okEntry m.2.2.2.2.2.2.2.2.1 ∧ True ∧ okInt m.2.2.2.2.2.2.2.2.2.2

theorem pf_fn : Pf okFn encFn := pf_pair pf_int (pf_pair pf_int pf_text)
theorem pf_node : Pf okNode encNode := pf_pair pf_int (pf_pair pf_int (pf_pair (pf_list pf_int) (pf_pair pf_fn (pf_pair pf_text (pf_pair pf_int pf_int)))))
theorem pf_move : Pf okMove encMove := pf_pair pf_int (pf_pair pf_int (pf_pair pf_int (pf_pair pf_int pf_fn)))
theorem pf_delta : Pf okDelta encDelta := pf_pair (pf_list pf_int) (pf_pair (pf_list pf_node) (pf_list pf_move))
theorem pf_rec : Pf okRec encRec := pf_pair pf_int pf_text
theorem pf_lim : Pf okLim encLim := pf_pair pf_int (pf_pair pf_int (pf_pair pf_int pf_int))
theorem pf_time : Pf okTime encTime := pf_pair pf_int (pf_pair pf_int pf_lim)
theorem pf_place : Pf okPlace encPlace := pf_pair pf_int pf_int
theorem pf_change : Pf okChange encChange := pf_pair pf_place (pf_pair pf_time pf_int)
theorem pf_entry : Pf okEntry encEntry := pf_pair pf_int (pf_pair pf_int (pf_pair pf_text pf_int))
theorem pf_msg : Pf okMsg encMsg :=
  pf_pair pf_int (pf_pair pf_int (pf_pair pf_place (pf_pair pf_time (pf_pair (pf_list pf_rec) (pf_pair (pf_list pf_change) (pf_pair pf_delta (pf_pair pf_int (pf_pair (pf_list pf_entry) (pf_pair pf_bool pf_int)))))))))

/-- unlike data have unlike bytes, none of which is a beginning of the other's -/
theorem pf_apart {α : Type} {ok : α → Prop} {enc : α → Bytes} (h : Pf ok enc) {a b : α} (ha : ok a) (hb : ok b) (r : Bytes) (e : enc a ++ r = enc b) : a = b ∧ r = [] := by
  have := h a b r [] ha hb (by simpa using e)
  exact this

end Go.Codec
