/- A field of the shop's is written anew. -/
import Derived.Test.YtomcffionomidaaRow2
import Derived.Test.YtomcffionomidaaComeIn
namespace Go.Proofs.Ytomcffionomidaa
open Go.RowKit

section
variable {w w' : World} {o : Nat → Nat} {lo : Nat → Prop} {p : Nat} {pty : TypeId} {hd : List Value} {ts : List Tsk} {f : Fl} {S : Slots} {v : Value}

theorem Shop.oNew_lo (h : Shop w o lo p pty hd ts f S) (id : Nat) : ∀ b, lo b → oNew o w.heap.size id b = 0 := fun b hb => by rw [oNew_lt (h.lo b hb)]; exact h.foreign b hb

/-- .. by a row that the call has made. -/
theorem Shop.putSaved (h : Shop w o lo p pty hd ts f S) (hb : Below w.heap.size w w') {l : List Bool} (hr : Row w' w.heap.size 4 1 v (l.map cBo)) :
    ShopAt (w'.setCell ⟨p, hd.length + 4, none⟩ v) lo p pty hd ts { f with saved := l } :=
  ⟨_, { S with s := v }, h.field (Moves.below (id := 6) hb (Nat.le_refl _) 6) (h.oNew_lo 6) (by omega) _ _ _ { S with s := v } (slots_set hd S _).2.1 rfl rfl rfl rfl rfl rfl (.inl ⟨by omega, rfl, rfl⟩) (.inr hr.owned) (.inl ⟨by omega, rfl, rfl⟩)⟩

theorem Shop.putKnown (h : Shop w o lo p pty hd ts f S) (hb : Below w.heap.size w w') {l : List Bool} (hr : Row w' w.heap.size 4 1 v (l.map cBo)) :
    ShopAt (w'.setCell ⟨p, hd.length + 3, none⟩ v) lo p pty hd ts { f with known := l } :=
  ⟨_, { S with k := v }, h.field (Moves.below (id := 5) hb (Nat.le_refl _) 5) (h.oNew_lo 5) (by omega) _ _ _ { S with k := v } (slots_set hd S _).2.2 rfl rfl rfl rfl rfl rfl (.inr hr.owned) (.inl ⟨by omega, rfl, rfl⟩) (.inl ⟨by omega, rfl, rfl⟩)⟩

theorem Shop.putWire (h : Shop w o lo p pty hd ts f S) (hb : Below w.heap.size w w') {l : List Nt} (hr : Row w' w.heap.size 123 2 v (l.map cN)) :
    ShopAt (w'.setCell ⟨p, hd.length + 5, none⟩ v) lo p pty hd ts { f with wire := l } :=
  ⟨_, { S with w := v }, h.field (Moves.below (id := 7) hb (Nat.le_refl _) 7) (h.oNew_lo 7) (by omega) _ _ _ { S with w := v } (slots_set hd S _).1 rfl rfl rfl rfl rfl rfl (.inl ⟨by omega, rfl, rfl⟩) (.inl ⟨by omega, rfl, rfl⟩) (.inr hr.owned)⟩

theorem Row.own_lt {base : Nat} {e : TypeId} {sz : Nat} {xs : List (Array Value)} (h : Row w base e sz v xs) : ∀ g, v.ownBlock = some g → g < w.heap.size := fun g hg => by
  obtain ⟨hall, hlen, h2⟩ := h
  rcases h2 with ⟨e0, -⟩ | ⟨g', cap, cur, e0, -, hh, -⟩
  · rw [e0] at hg; cases hg
  · rw [e0] at hg; cases hg; exact lt_of_block hh

/-- .. by the row that was there, shortened. -/
theorem Shop.delWire (h : Shop w o lo p pty hd ts f S) (hg : w.grownBy w' S.w.ownBlock) {l : List Nt} (hr : Row w' 0 123 2 v (l.map cN)) (hv : v.ownBlock = S.w.ownBlock) :
    ShopAt (w'.setCell ⟨p, hd.length + 5, none⟩ v) lo p pty hd ts { f with wire := l } ∧ Apart lo w w' ∧ (∀ k u, (hd ++ slotsL S)[k]? = some u → w'.cell? ⟨p, k, none⟩ = some u) ∧ (∀ k, w'.frozen? ⟨p, k, none⟩ = false) := by
  have hop : o p = 1 := h.hp
  have hm : Moves o (oNew o w.heap.size 7) 7 w w' := Moves.grown hg (fun g e => h.wire.2 g e) 7
  have hrO : RowO w' (oNew o w.heap.size 7) 7 123 2 v (l.map cN) := ⟨hr, fun g hg' => by
    rw [hv] at hg'
    rw [oNew_lt (h.wire.1.own_lt g hg')]; exact h.wire.2 g hg'⟩
  refine ⟨⟨_, { S with w := v }, h.field hm (h.oNew_lo 7) (by omega) _ _ _ { S with w := v } (slots_set hd S _).1 rfl rfl rfl rfl rfl rfl (.inl ⟨by omega, rfl, rfl⟩) (.inl ⟨by omega, rfl, rfl⟩) (.inr hrO)⟩,
    (Apart.refl lo w).grown hg fun k hk => h.ge (by have := h.wire.2 k hk; omega), fun k u hu => ?_, fun k => ?_⟩
  · rw [World.cell?_of_block (w := w) (a := ⟨p, k, none⟩) ((hm.2 p h.lt).2 (by omega))]; exact h.cell hu
  · rw [World.frozen?_of_block (w := w) (a := ⟨p, k, none⟩) ((hm.2 p h.lt).2 (by omega))]; exact h.froz k
end

/-! ### One note, whatever it is -/

theorem come_any (lo : Nat → Prop) (p wp r nb : Nat) (ts : List Tsk) (f : Fl) (n : Nt) (w : World) (hS : ShopAt w lo p 101 [.pointer (some ⟨wp, 0, none⟩)] ts f) (hok : FlOk r nb ts f) (ht : n.t < ts.length)
    (hwp : wp < w.heap.size) (hr : w.cell? ⟨wp, 0, none⟩ = some (.int .i64 r)) :
    Calls Try.prog 128 #[.pointer (some ⟨p, 0, none⟩), .agg (cN n)] w (ComePost w lo p 101 [.pointer (some ⟨wp, 0, none⟩)] ts (pour r ts f n)) := by
  obtain ⟨b, t⟩ := n
  cases b with
  | true => exact come_back lo p wp r nb ts f t w hS hok ht
  | false =>
    cases hbk : bookAt f (roomOf r t) t with
    | true => exact come_seen lo p wp r nb ts f t w hS hok ht hwp hr hbk
    | false => exact come_new lo p wp r nb ts f t w hS hok ht hwp hr hbk

theorem comeIn_any (lo : Nat → Prop) (p r nb : Nat) (AB : Option Addr) (nB cB0 : Nat) (ts : List Tsk) (f : Fl) (n : Nt) (w : World) (hS : ShopAt w lo p 106 [.int .i64 r, .slice AB nB cB0] ts f) (hok : FlOk r nb ts f) (ht : n.t < ts.length) :
    Calls Try.prog 102 #[.pointer (some ⟨p, 0, none⟩), .agg (cN n)] w (ComePost w lo p 106 [.int .i64 r, .slice AB nB cB0] ts (pour r ts f n)) := by
  obtain ⟨b, t⟩ := n
  cases b with
  | true => exact comeIn_back lo p r nb AB nB cB0 ts f t w hS hok ht
  | false =>
    cases hbk : bookAt f (roomOf r t) t with
    | true => exact comeIn_seen lo p r nb AB nB cB0 ts f t w hS hok ht hbk
    | false => exact comeIn_new lo p r nb AB nB cB0 ts f t w hS hok ht hbk

theorem lengthTask_any (A : Option Addr) (n c : Nat) (w : World) : Calls Try.prog 98 #[.slice A n c] w fun e w' => e = .returned (.int .i64 n) ∧ w = w' := by
  go_enter Try.func98, Try.ntmps98
  go_wp2
  go_ret
  exact ⟨rfl, rfl⟩

theorem lengthNote_any (A : Option Addr) (n c : Nat) (w : World) : Calls Try.prog 100 #[.slice A n c] w fun e w' => e = .returned (.int .i64 n) ∧ w = w' := by
  go_enter Try.func100, Try.ntmps100
  go_wp2
  go_ret
  exact ⟨rfl, rfl⟩
end Go.Proofs.Ytomcffionomidaa
