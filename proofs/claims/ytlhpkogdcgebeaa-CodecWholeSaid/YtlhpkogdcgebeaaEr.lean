/- Messages as they lie in memory are within the bounds that the plain law asks (no program in sight). -/
import Derived.Test.YtlhpkogdcgebeaaZe
import Derived.Test.YtlhpkogdcgebeaaEp
namespace Go.Z
theorem ok_i {n : Int} (h : IntKind.i64.has n) : Codec.okInt n := has_i64 h
theorem ok_list {t : Ty} {xs : List t.den} {p : t.den → Prop} (h : (Ty.slice t).ok xs) (hp : ∀ x, t.ok x → p x) : Codec.okList p xs := ⟨h.1, fun x hx => hp x (h.2 x hx)⟩
abbrev I := Ty.int .i64
abbrev tyFn := Ty.pair I (.pair I .str)
abbrev tyNode := Ty.pair I (.pair I (.pair (.slice I) (.pair tyFn (.pair .str (.pair I I)))))
abbrev tyMove := Ty.pair I (.pair I (.pair I (.pair I tyFn)))
abbrev tyDelta := Ty.pair (.slice I) (.pair (.slice tyNode) (.slice tyMove))
abbrev tyRec := Ty.pair I .str
abbrev tyTime := Ty.pair I (.pair I (.pair I (.pair I (.pair I I))))
abbrev tyPlace := Ty.pair I I
abbrev tyChange := Ty.pair tyPlace (.pair tyTime I)
abbrev tyEntry := Ty.pair I (.pair I (.pair .str I))
abbrev tyMsg := Ty.pair I (.pair I (.pair tyPlace (.pair tyTime (.pair (.slice tyRec) (.pair (.slice tyChange) (.pair tyDelta (.pair I (.pair (.slice tyEntry) (.pair .bool I)))))))))
theorem ok_fn {f : Codec.Fn} (h : tyFn.ok f) : Codec.okFn f := ⟨ok_i h.1, ok_i h.2.1, h.2.2⟩
theorem ok_node {n : Codec.Node} (h : tyNode.ok n) : Codec.okNode n := ⟨ok_i h.1, ok_i h.2.1, ok_list (t := I) h.2.2.1 fun _ h => ok_i h, ok_fn h.2.2.2.1, h.2.2.2.2.1, ok_i h.2.2.2.2.2.1, ok_i h.2.2.2.2.2.2⟩
theorem ok_move {n : Codec.Move} (h : tyMove.ok n) : Codec.okMove n := ⟨ok_i h.1, ok_i h.2.1, ok_i h.2.2.1, ok_i h.2.2.2.1, ok_fn h.2.2.2.2⟩
theorem ok_delta {d : Codec.Delta} (h : tyDelta.ok d) : Codec.okDelta d := ⟨ok_list (t := I) h.1 fun _ h => ok_i h, ok_list (t := tyNode) h.2.1 fun _ h => ok_node h, ok_list (t := tyMove) h.2.2 fun _ h => ok_move h⟩
theorem ok_rec {r : Codec.Rec} (h : tyRec.ok r) : Codec.okRec r := ⟨ok_i h.1, h.2⟩
theorem ok_time {r : Codec.Time} (h : tyTime.ok r) : Codec.okTime r := ⟨ok_i h.1, ok_i h.2.1, ok_i h.2.2.1, ok_i h.2.2.2.1, ok_i h.2.2.2.2.1, ok_i h.2.2.2.2.2⟩
theorem ok_place {r : Codec.Place} (h : tyPlace.ok r) : Codec.okPlace r := ⟨ok_i h.1, ok_i h.2⟩
theorem ok_change {r : Codec.Change} (h : tyChange.ok r) : Codec.okChange r := ⟨ok_place h.1, ok_time h.2.1, ok_i h.2.2⟩
theorem ok_entry {r : Codec.Entry} (h : tyEntry.ok r) : Codec.okEntry r := ⟨ok_i h.1, ok_i h.2.1, h.2.2.1, ok_i h.2.2.2⟩
theorem ok_msg {m : Codec.Msg} (h : tyMsg.ok m) : Codec.okMsg m :=
  ⟨ok_i h.1, ok_i h.2.1, ok_place h.2.2.1, ok_time h.2.2.2.1, ok_list (t := tyRec) h.2.2.2.2.1 fun _ h => ok_rec h, ok_list (t := tyChange) h.2.2.2.2.2.1 fun _ h => ok_change h, ok_delta h.2.2.2.2.2.2.1, ok_i h.2.2.2.2.2.2.2.1,
    ok_list (t := tyEntry) h.2.2.2.2.2.2.2.2.1 fun _ h => ok_entry h, trivial, ok_i h.2.2.2.2.2.2.2.2.2.2⟩
end Go.Z
