/-
  The contracts of the document's answer for a handshake (two lists of spaces): each of its functions, by the same plain state as the handshake's own.
-/
import Derived.Test.YtkhjfknmjbffdaaWorks
import Derived.Laws.AppendOwnNone
import Derived.Deep.DeepCutAuto
namespace Go.Proofs.Ytkhjfknmjbffdaa
open Go.RowKit Go.Sort
set_option linter.unusedVariables false
set_option linter.unusedSimpArgs false

/-! An append to a list of the call's own: and WHERE the new list lies. -/
section
variable {P : Program} {w : World}
theorem append_where (base : Nat) (t ty e : TypeId) (i : TypeInfo) (z : Value) (size bytes : Nat) (ht : P.underlying t = some (.slice e)) (hi : P.info? e = some i) (hz : i.zero = some z)
    (hsize : i.size = size) (hby : i.bytes = bytes) (hzs : z.cells.size = size) (hsz : 0 < size)
    (v : Value) (n : Nat) (xs : List Value) (hown : w.ownsRow base e size v n xs)
    (a : Addr) (m c : Nat) (news : List Value) (hl : news.length = m * size) (hnews : ∀ j u, news[j]? = some u → w.cell? (a.add j) = some u) (h1 : ∀ u ∈ news, u.oneCell' = true)
    (h63 : n + m ≤ maxLen) (hbytes : (n + m) * bytes ≤ 140737488355328) (hbase : base ≤ w.heap.size) :
    ∃ v' w', (Builtin.append_ #[t, t] ty #[v, .slice (some a) m c]).run P w = .ok v' w' ∧ w'.ownsRow base e size v' (n + m) (xs ++ news) ∧ w.grownBy w' v.ownBlock ∧ (v'.ownBlock = v.ownBlock ∨ v'.ownBlock = some w.heap.size) := by
  obtain ⟨v', w', hr, h2, h3, h4⟩ := run_append_own (P := P) w base t ty e i z size bytes ht hi hz hsize hby hzs hsz v n xs hown a m c news hl hnews h1 h63 hbytes hbase
  refine ⟨v', w', hr, h2, h3, ?_⟩
  have key : ∀ {x : Value} {y : World}, (Builtin.append_ #[t, t] ty #[v, .slice (some a) m c]).run P w = .ok x y → v' = x := by
    intro x y hxy; rw [hr] at hxy; cases hxy; rfl
  subst hsize
  subst hby
  have h63' : n + m ≤ 9223372036854775807 := by unfold maxLen at h63; omega
  rcases hown.2 with ⟨rfl, rfl⟩ | ⟨g, cap, cur, rfl, hbg, hg, hnc, hcm, hcs, htake⟩
  · by_cases hm : m = 0
    · have := h4.2 ⟨rfl, hm⟩
      exact Or.inl (by rw [this])
    · have := key (run_append_nil (P := P) w t ty e i z ht hi hz a m c news hl hnews (by omega) (by omega) (by have hb := hbytes; simp only [Nat.zero_add] at hb; omega))
      exact Or.inr (by rw [this]; rfl)
  · by_cases hroom : n + m ≤ cap
    · have hfit : n * i.size + news.length ≤ cur.size := by rw [hl, hcs, ← Nat.add_mul]; exact Nat.mul_le_mul_right _ hroom
      have := key (run_append_room (P := P) w t ty e i ht hi g n cap cur hg a m c news hl hnews h1 hroom hfit)
      exact Or.inl (by rw [this]; rfl)
    · have holds : ∀ j u, xs[j]? = some u → w.cell? ((⟨g, 0, none⟩ : Addr).add j) = some u := hown.cells (g := g) rfl
      have := key (run_append_grow (P := P) w t ty e i z ht hi hz ⟨g, 0, none⟩ n cap xs hown.1 holds a m c news hl hnews (by omega) (by omega) (growslice_fits (by omega) hbytes))
      exact Or.inr (by rw [this]; rfl)
theorem wpList_append_where {ops : Array Oper} {rest : List Oper} {o : Oper} {a : Act} {Q : Exit → Act → World → Prop} (hgd : o.guard = none) (s x : Operand) (t : TypeId)
    (ho : o.op = .call { callee := .builtin .append, args := #[s, x], argTypes := #[t, t] })
    (base : Nat) (e : TypeId) (i : TypeInfo) (z : Value) (size bytes : Nat) (ht : P.underlying t = some (.slice e)) (hi : P.info? e = some i) (hz : i.zero = some z)
    (hsize : i.size = size) (hby : i.bytes = bytes) (hzs : z.cells.size = size) (hsz : 0 < size)
    (v : Value) (n : Nat) (xs : List Value) (hs : a.eval s = v) (hown : w.ownsRow base e size v n xs)
    (ad : Addr) (m c : Nat) (news : List Value) (hx : a.eval x = .slice (some ad) m c) (hl : news.length = m * size) (hnews : ∀ j u, news[j]? = some u → w.cell? (ad.add j) = some u) (h1 : ∀ u ∈ news, u.oneCell' = true)
    (h63 : n + m ≤ maxLen) (hbytes : (n + m) * bytes ≤ 140737488355328) (hbase : base ≤ w.heap.size)
    (h : ∀ v' w', w'.ownsRow base e size v' (n + m) (xs ++ news) → w.grownBy w' v.ownBlock → (v'.ownBlock = v.ownBlock ∨ v'.ownBlock = some w.heap.size) → wpList P ops Q rest (a.put o.dst v') w') : wpList P ops Q (o :: rest) a w := by
  refine wpList_plain hgd fun K hK => ?_
  obtain ⟨v', w', hr, h2, h3, h4⟩ := append_where (P := P) (w := w) base t o.type e i z size bytes ht hi hz hsize hby hzs hsz v n xs hown ad m c news hl hnews h1 h63 hbytes hbase
  unfold Oper.wp
  simp [execOp, ho, resolve, invoke, builtin, hs, hx, hr, Result.andThen]
  exact hK _ _ (h v' w' h2 h3 h4)
end

/-! Plain: how many spaces have keys, how many are gone. -/
def one (b : Bool) : Nat := if b then 1 else 0
def HS.cntK (S : HS) : Nat := one (S.has 0) + one (S.has 1) + one (S.has 2)
def HS.cntG (S : HS) : Nat := one (decide (S.st 0 = 2)) + one (decide (S.st 1 = 2)) + one (decide (S.st 2 = 2))
theorem one_le (b : Bool) : one b ≤ 1 := by cases b <;> decide
theorem cntK_le (S : HS) : S.cntK ≤ 3 := by unfold HS.cntK; have := one_le (S.has 0); have := one_le (S.has 1); have := one_le (S.has 2); omega
theorem cntG_le (S : HS) : S.cntG ≤ 3 := by unfold HS.cntG; have := one_le (decide (S.st 0 = 2)); have := one_le (decide (S.st 1 = 2)); have := one_le (decide (S.st 2 = 2)); omega

def refCells (S : HS) (vK vG : Value) : Array Value := #[.bool S.sv, vK, vG, .bool S.v, .bool S.c, .bool S.an]
/-- The document's handshake lies at block m, its lists' blocks and m at or behind B; it is in state S. -/
structure RefAt (w : World) (B m : Nat) (S : HS) (vK vG : Value) (K G : List Int) : Prop where
  base : B ≤ m
  at_ : w.heap[m]? = some (.cells (refCells S vK vG) 57 (0, 0))
  ownK : w.ownsRow B 3 1 vK K.length (K.map (Value.int .i64))
  ownG : w.ownsRow B 3 1 vG G.length (G.map (Value.int .i64))
  inK : ∀ s, s ∈ K ↔ S.has s = true
  inG : ∀ s, s ∈ G ↔ ((0 ≤ s ∧ s < 3) ∧ S.st s = 2)
  lenK : K.length = S.cntK
  lenG : G.length = S.cntG
  apart : ∀ g, vK.ownBlock = some g → vG.ownBlock ≠ some g
def IsRef (w : World) (B m : Nat) (S : HS) : Prop := ∃ vK vG K G, RefAt w B m S vK vG K G

theorem own_keepB {w w' : World} {B : Nat} {v : Value} {n : Nat} {xs : List Value} (h : w.ownsRow B 3 1 v n xs) (hb : ∀ k, k < w.heap.size → v.ownBlock = some k → w'.heap[k]? = w.heap[k]?) : w'.ownsRow B 3 1 v n xs := by
  obtain ⟨hl, h | ⟨g, cap, cur, hv, hB, hg, hn, hcap, hsz, hcur⟩⟩ := h
  · exact ⟨hl, Or.inl h⟩
  · have hlt : g < w.heap.size := by
      rcases Nat.lt_or_ge g w.heap.size with h' | h'
      · exact h'
      · rw [Array.getElem?_eq_none h'] at hg; cases hg
    exact ⟨hl, Or.inr ⟨g, cap, cur, hv, hB, (hb g hlt (by rw [hv]; rfl)).trans hg, hn, hcap, hsz, hcur⟩⟩
theorem own_type {w : World} {B : Nat} {v : Value} {n : Nat} {xs : List Value} (h : w.ownsRow B 3 1 v n xs) {m : Nat} {cs : Array Value} (hm : w.heap[m]? = some (.cells cs 57 (0, 0))) : v.ownBlock ≠ some m := by
  intro e
  obtain ⟨hl, ⟨rfl, _⟩ | ⟨g, cap, cur, hv, hB, hg, hn, hcap, hsz, hcur⟩⟩ := h
  · cases e
  · rw [hv] at e
    have : g = m := by simpa [Value.ownBlock] using e
    subst this
    rw [hg] at hm; cases hm
theorem own_slice {w : World} {B : Nat} {v : Value} {n : Nat} {xs : List Value} (h : w.ownsRow B 3 1 v n xs) : ∃ a l c, v = .slice a l c := by
  obtain ⟨hl, ⟨rfl, _⟩ | ⟨g, cap, cur, hv, _⟩⟩ := h
  · exact ⟨_, _, _, rfl⟩
  · exact ⟨_, _, _, hv⟩
theorem RefAt.lt {w : World} {B m : Nat} {S : HS} {vK vG : Value} {K G : List Int} (h : RefAt w B m S vK vG K G) : m < w.heap.size := by
  have := h.at_
  rcases Nat.lt_or_ge m w.heap.size with h' | h'
  · exact h'
  · rw [Array.getElem?_eq_none h'] at this; cases this
theorem RefAt.move {w w' : World} {B m : Nat} {S : HS} {vK vG : Value} {K G : List Int} (h : RefAt w B m S vK vG K G) (hb : ∀ k, B ≤ k → k < w.heap.size → w'.heap[k]? = w.heap[k]?) : RefAt w' B m S vK vG K G :=
  ⟨h.base, (hb m h.base h.lt).trans h.at_, own_keepB h.ownK fun k hk e => hb k (World.ownsRow.lt h.ownK k e).1 hk, own_keepB h.ownG fun k hk e => hb k (World.ownsRow.lt h.ownG k e).1 hk, h.inK, h.inG, h.lenK, h.lenG, h.apart⟩
theorem RefAt.keep {w w' : World} {B m : Nat} {S : HS} {vK vG : Value} {K G : List Int} (h : RefAt w B m S vK vG K G) (hb : Below w.heap.size w w') : RefAt w' B m S vK vG K G := h.move fun k _ hk => hb.block k hk
theorem RefAt.away {w w' : World} {B b m : Nat} {S : HS} {vK vG : Value} {K G : List Int} (h : RefAt w B m S vK vG K G) (ho : Only b w w') (hlt : b < B) : RefAt w' B m S vK vG K G := h.move fun k hB hk => ho.block k hk (by omega)
theorem IsRef.keep {w w' : World} {B m : Nat} {S : HS} (h : IsRef w B m S) (hb : Below w.heap.size w w') : IsRef w' B m S := by
  obtain ⟨vK, vG, K, G, h⟩ := h; exact ⟨vK, vG, K, G, h.keep hb⟩
theorem IsRef.away {w w' : World} {B b m : Nat} {S : HS} (h : IsRef w B m S) (ho : Only b w w') (hlt : b < B) : IsRef w' B m S := by
  obtain ⟨vK, vG, K, G, h⟩ := h; exact ⟨vK, vG, K, G, h.away ho hlt⟩
theorem RefAt.cells {w : World} {B m : Nat} {S : HS} {vK vG : Value} {K G : List Int} (h : RefAt w B m S vK vG K G) :
    w.cell? ⟨m, 0, none⟩ = some (.bool S.sv) ∧ w.cell? ⟨m, 1, none⟩ = some vK ∧ w.cell? ⟨m, 2, none⟩ = some vG ∧ w.cell? ⟨m, 3, none⟩ = some (.bool S.v) ∧ w.cell? ⟨m, 4, none⟩ = some (.bool S.c) ∧ w.cell? ⟨m, 5, none⟩ = some (.bool S.an) := by
  have := h.at_
  refine ⟨?_, ?_, ?_, ?_, ?_, ?_⟩ <;> simp [World.cell?, this, refCells]
theorem RefAt.free {w : World} {B m : Nat} {S : HS} {vK vG : Value} {K G : List Int} (h : RefAt w B m S vK vG K G) (i : Nat) : w.frozen? ⟨m, i, none⟩ = false := by
  have := h.at_
  simp [World.frozen?, this]

/-! The readers. -/
set_option maxHeartbeats 1000000 in
theorem in_zero (a : Option Addr) (c : Nat) (s : Int) (w : World) : Calls Try.prog 45 #[.slice a 0 c, .int .i64 s] w fun e w' => e = .returned (.bool false) ∧ w = w' := by
  go_enter Try.func45, Try.ntmps45
  go_wp2_with fail
  refine wp_loop_rounds 1 ?_
  rw [rounds_succ]
  go_wp2
  go_ret
  exact ⟨rfl, rfl⟩
set_option maxHeartbeats 1000000 in
theorem in_any (v : Value) (xs : List Int) (s : Int) (w : World) (hv : IsInts w v xs) (hl : xs.length ≤ 9223372036854775807) : Calls Try.prog 45 #[v, .int .i64 s] w fun e w' => e = .returned (.bool (decide (s ∈ xs))) ∧ w = w' := by
  rcases hv with ⟨rfl, a, c, rfl⟩ | ⟨b, off, c, rfl, hc⟩
  · exact in_zero a c s w
  · obtain ⟨n, hn⟩ : ∃ n, n = xs.length := ⟨_, rfl⟩
    rw [← hn] at hc hl ⊢
    have HC := hide (And.intro hc hn)
    clear hc hn
    go_enter Try.func45, Try.ntmps45
    go_wp2_with fail
    go_loopw [5] (fun i wr => ∃ k : Nat, i = .int .i64 (k : Int) ∧ k ≤ n ∧ (∀ j, j < k → xs.getD j 0 ≠ s) ∧ w = wr) (fun i _ => (n - (intOf i).toNat))
    case atStart => exact ⟨0, rfl, by omega, fun j hj => by omega, rfl⟩
    case round =>
      obtain ⟨k, rfl, hk, hne, rfl⟩ := hrel
      have HE := hide hne
      clear hne
      by_cases hlt : k < n
      · have cx := HC.out.1 k hlt
        obtain ⟨x, hx⟩ : ∃ x, xs.getD k 0 = x := ⟨_, rfl⟩
        rw [hx] at cx
        by_cases he : x = s
        · have ht : decide (s ∈ xs) = true := by
            rw [decide_eq_true_eq, ← he, ← hx]
            have hlt' : k < xs.length := by rw [← HC.out.2]; exact hlt
            simp [List.getD, hlt']
          have HT := hide ht
          clear ht hx
          go_wp2_with fail
          go_ret
          exact ⟨by rw [HT.out]; rfl, rfl⟩
        · have HX := hide hx
          clear hx
          go_wp2_with fail
          go_roundw
          case rel =>
            refine ⟨k + 1, by go_num, by omega, fun j hj => ?_, trivial⟩
            rcases Nat.lt_succ_iff_lt_or_eq.1 hj with hj | rfl
            · exact HE.out j hj
            · rw [HX.out]; exact he
          case measure => simp [intOf]; omega
      · have hkn : k = n := by omega
        have hf : decide (s ∈ xs) = false := by
          rw [decide_eq_false_iff_not]; intro hm
          obtain ⟨j, hj, e⟩ := List.getElem_of_mem hm
          refine HE.out j (by have := HC.out.2; omega) ?_
          simpa [List.getD, hj] using e
        have HF := hide hf
        clear hf
        subst hkn
        go_wp2
        go_ret
        exact ⟨by rw [HF.out]; rfl, rfl⟩
theorem RefAt.hasK {w : World} {B m : Nat} {S : HS} {vK vG : Value} {K G : List Int} (h : RefAt w B m S vK vG K G) (s : Int) : decide (s ∈ K) = S.has s := by
  have := h.inK s
  cases hh : S.has s
  · rw [decide_eq_false_iff_not]; intro hm; rw [this, hh] at hm; cases hm
  · rw [decide_eq_true_eq]; exact this.2 hh
theorem RefAt.goneG {w : World} {B m : Nat} {S : HS} {vK vG : Value} {K G : List Int} (h : RefAt w B m S vK vG K G) (s : Int) : decide (s ∈ G) = decide ((0 ≤ s ∧ s < 3) ∧ S.st s = 2) := decide_eq_decide.2 (h.inG s)
theorem lives_of (S : HS) (hok : S.ok) (s : Int) : S.lives s = (S.has s && !decide ((0 ≤ s ∧ s < 3) ∧ S.st s = 2)) := by
  unfold HS.lives HS.has
  have hin := st_in hok s
  by_cases hs : 0 ≤ s ∧ s < 3
  · obtain e | e | e : S.st s = 0 ∨ S.st s = 1 ∨ S.st s = 2 := by omega
    all_goals simp [hs, e]
  · simp [hs]
set_option maxHeartbeats 1000000 in
theorem rhas_any {w : World} {B m : Nat} {S : HS} {vK vG : Value} {K G : List Int} (h : RefAt w B m S vK vG K G) (s : Int) : Calls Try.prog 37 #[.pointer (some ⟨m, 0, none⟩), .int .i64 s] w fun e w' => e = .returned (.bool (S.has s)) ∧ w = w' := by
  obtain ⟨c0, c1, c2, c3, c4, c5⟩ := h.cells
  have hi := in_any vK K s w (ints_of_own h.ownK) (by have := h.lenK; have := cntK_le S; omega)
  rw [h.hasK] at hi
  go_enter Try.func37, Try.ntmps37
  go_wp2_with fail
  refine hi.mono ?_; rintro e w' ⟨rfl, rfl⟩
  go_wp2_with fail
  go_ret
  exact ⟨rfl, rfl⟩
set_option maxHeartbeats 1000000 in
theorem rlives_any {w : World} {B m : Nat} {S : HS} {vK vG : Value} {K G : List Int} (h : RefAt w B m S vK vG K G) (hok : S.ok) (s : Int) : Calls Try.prog 36 #[.pointer (some ⟨m, 0, none⟩), .int .i64 s] w fun e w' => e = .returned (.bool (S.lives s)) ∧ w = w' := by
  obtain ⟨c0, c1, c2, c3, c4, c5⟩ := h.cells
  have hi := in_any vK K s w (ints_of_own h.ownK) (by have := h.lenK; have := cntK_le S; omega)
  have hg := in_any vG G s w (ints_of_own h.ownG) (by have := h.lenG; have := cntG_le S; omega)
  rw [h.hasK] at hi
  rw [h.goneG] at hg
  rw [lives_of S hok s]
  obtain ⟨x, hx⟩ : ∃ x, S.has s = x := ⟨_, rfl⟩
  obtain ⟨y, hy⟩ : ∃ y, decide ((0 ≤ s ∧ s < 3) ∧ S.st s = 2) = y := ⟨_, rfl⟩
  rw [hx] at hi ⊢
  rw [hy] at hg ⊢
  clear hx hy
  go_enter Try.func36, Try.ntmps36
  go_wp2_with fail
  refine hi.mono ?_; rintro e w' ⟨rfl, rfl⟩
  cases x
  · go_wp2_with fail
    go_ret
    exact ⟨rfl, rfl⟩
  · go_wp2_with fail
    refine hg.mono ?_; rintro e w' ⟨rfl, rfl⟩
    cases y
    all_goals
      go_wp2_with fail
      go_ret
      exact ⟨rfl, rfl⟩
set_option maxHeartbeats 1000000 in
theorem rsure_any {w : World} {B m : Nat} {S : HS} {vK vG : Value} {K G : List Int} (h : RefAt w B m S vK vG K G) : Calls Try.prog 39 #[.pointer (some ⟨m, 0, none⟩)] w fun e w' => e = .returned (.bool S.sure) ∧ w = w' := by
  obtain ⟨c0, c1, c2, c3, c4, c5⟩ := h.cells
  unfold HS.sure
  obtain ⟨x, hx⟩ : ∃ x, S.sv = x := ⟨_, rfl⟩
  obtain ⟨y, hy⟩ : ∃ y, S.c = y := ⟨_, rfl⟩
  obtain ⟨z, hz⟩ : ∃ z, S.an = z := ⟨_, rfl⟩
  rw [hx] at c0 ⊢
  rw [hy] at c4 ⊢
  rw [hz] at c5 ⊢
  clear hx hy hz
  cases x <;> cases y <;> cases z
  all_goals
    go_enter Try.func39, Try.ntmps39
    go_wp2_with fail
    go_ret
    exact ⟨rfl, rfl⟩
set_option maxHeartbeats 1000000 in
theorem rlive_any {w : World} {B m : Nat} {S : HS} {vK vG : Value} {K G : List Int} (h : RefAt w B m S vK vG K G) (hok : S.ok) :
    Calls Try.prog 38 #[.pointer (some ⟨m, 0, none⟩)] w fun e w' => ∃ v, e = .returned v ∧ IsInts w' v (liveN S 3) ∧ Below w.heap.size w w' := by
  obtain ⟨i0, hi, hz0, hz1, hz2⟩ := info_parts Try.info3
  go_enter Try.func38, Try.ntmps38
  go_wp2_with fail
  go_loopw [3, 4] (LRel w S) (fun _ i _ => (3 - intOf i).toNat)
  case atStart => exact ⟨0, rfl, by omega, World.ownsRow_nil _ _ _ _, Below.refl _ _⟩
  case round =>
    obtain ⟨k, rfl, hk3, hown, bel⟩ := hrel
    have hlen := liveN_len S k
    have hh := h.keep bel
    by_cases hlt : k < 3
    · go_wp2_with fail
      refine (rlives_any hh hok (k : Int)).mono ?_; rintro e w' ⟨rfl, rfl⟩
      cases hl : S.lives (k : Int)
      · have e1 : liveN S (k + 1) = liveN S k := by rw [liveN, hl]; rfl
        have H := hide e1
        clear hl e1
        go_wp2_with fail
        go_roundw
        case rel => exact ⟨k + 1, by go_num, by omega, by rw [H.out]; exact hown, bel⟩
        case measure => simp [intOf]; omega
      · have e1 : liveN S (k + 1) = liveN S k ++ [(k : Int)] := by rw [liveN, hl]; rfl
        have H := hide e1
        clear hl e1
        go_wp2_with (at_builtin; refine wpList_append_own _ rfl _ _ 36 rfl w.heap.size 3 i0 (.int .i64 0) 1 8 Try.underlying36 hi hz0 hz1 hz2 rfl (by decide) _ _ _ rfl (hown.alloc _) ⟨wr.heap.size, 0, none⟩ 1 1 [.int .i64 (k : Int)] rfl rfl ?c1 ?c2 ?c3 ?c4 ?c5 ?_)
        case c1 => exact cell_one_new _ _ _
        case c2 => simp [Value.oneCell']
        case c3 => unfold maxLen; omega
        case c4 => omega
        case c5 => have := bel.size; simp; omega
        intro v' w1 hown' hgrow _
        go_wp2_with fail
        go_roundw
        case rel =>
          refine ⟨k + 1, by go_num, by omega, ?_, ?_⟩
          · rw [H.out]; simpa using hown'
          · exact (bel.alloc bel.size _).grown hgrow (by have := bel.size; simp; omega) (fun k hk => (hown.lt k hk).1)
        case measure => simp [intOf]; omega
    · have : k = 3 := by omega
      subst this
      go_wp2
      go_ret
      exact ⟨_, rfl, ints_of_own hown, bel⟩
/-! The writers. -/
set_option maxHeartbeats 400000 in
theorem rspace_any (s : Int) (w : World) : Calls Try.prog 46 #[.int .i64 s] w fun e w' => e = .returned (.bool (decide (0 ≤ s ∧ s < 3))) ∧ w = w' := by
  by_cases h0 : 0 ≤ s
  · by_cases h1 : s < 3
    · go_enter Try.func46, Try.ntmps46
      go_wp2
      go_ret
      exact ⟨by simp [h0, h1], rfl⟩
    · go_enter Try.func46, Try.ntmps46
      go_wp2
      go_ret
      exact ⟨by simp; omega, rfl⟩
  · go_enter Try.func46, Try.ntmps46
    go_wp2
    go_ret
    exact ⟨by simp; omega, rfl⟩
theorem lives_needs_r (S : HS) (s : Int) : S.lives s = decide (S.needs s = 0) := by
  unfold HS.lives HS.needs
  by_cases hs : 0 ≤ s ∧ s < 3
  · by_cases h1 : S.st s = 1 <;> simp [hs, h1]
  · simp [hs]
theorem stp (S : HS) (i x s : Int) (s0 : 0 ≤ s) (s3 : s < 3) (i0 : 0 ≤ i) (i3 : i < 3) : (S.put i x).st s = if s = i then x else S.st s := by
  obtain rfl | rfl | rfl : s = 0 ∨ s = 1 ∨ s = 2 := by omega
  all_goals
    obtain rfl | rfl | rfl : i = 0 ∨ i = 1 ∨ i = 2 := by omega
    all_goals simp [HS.put, HS.st]
theorem has_iff (S : HS) (s : Int) : S.has s = true ↔ ((0 ≤ s ∧ s < 3) ∧ S.st s ≠ 0) := by
  unfold HS.has; simp only [Bool.and_eq_true, decide_eq_true_eq]
theorem putK {S : HS} {s : Int} (s0 : 0 ≤ s) (s3 : s < 3) (h0 : S.st s = 0) : (∀ x, ((S.put s 1).has x = true ↔ (S.has x = true ∨ x = s))) ∧ (∀ x, ((0 ≤ x ∧ x < 3) ∧ (S.put s 1).st x = 2) ↔ ((0 ≤ x ∧ x < 3) ∧ S.st x = 2)) ∧ (S.put s 1).cntK = S.cntK + 1 ∧ (S.put s 1).cntG = S.cntG := by
  refine ⟨fun x => ?_, fun x => ?_, ?_, ?_⟩
  · rw [has_iff, has_iff]
    by_cases hx : 0 ≤ x ∧ x < 3
    · rw [stp S s 1 x hx.1 hx.2 s0 s3]
      by_cases e : x = s <;> simp [e, hx, s0, s3]
    · have : x ≠ s := by rintro rfl; exact hx ⟨s0, s3⟩
      simp [hx, this]
  · by_cases hx : 0 ≤ x ∧ x < 3
    · rw [stp S s 1 x hx.1 hx.2 s0 s3]
      by_cases e : x = s
      · subst e; simp [h0]
      · simp [e]
    · simp [hx]
  · obtain rfl | rfl | rfl : s = 0 ∨ s = 1 ∨ s = 2 := by omega
    all_goals
      simp [HS.st] at h0
      simp [HS.cntK, HS.has, HS.put, HS.st, one, h0]
      try omega
  · obtain rfl | rfl | rfl : s = 0 ∨ s = 1 ∨ s = 2 := by omega
    all_goals
      simp [HS.st] at h0
      simp [HS.cntG, HS.put, HS.st, one, h0]
theorem putG {S : HS} {s : Int} (s0 : 0 ≤ s) (s3 : s < 3) (h0 : S.st s = 1) : (∀ x, ((S.put s 2).has x = true ↔ S.has x = true)) ∧ (∀ x, ((0 ≤ x ∧ x < 3) ∧ (S.put s 2).st x = 2) ↔ (((0 ≤ x ∧ x < 3) ∧ S.st x = 2) ∨ x = s)) ∧ (S.put s 2).cntK = S.cntK ∧ (S.put s 2).cntG = S.cntG + 1 := by
  refine ⟨fun x => ?_, fun x => ?_, ?_, ?_⟩
  · rw [has_iff, has_iff]
    by_cases hx : 0 ≤ x ∧ x < 3
    · rw [stp S s 2 x hx.1 hx.2 s0 s3]
      by_cases e : x = s
      · subst e; simp [h0]
      · simp [e]
    · simp [hx]
  · by_cases hx : 0 ≤ x ∧ x < 3
    · rw [stp S s 2 x hx.1 hx.2 s0 s3]
      by_cases e : x = s <;> simp [e, hx, s0, s3]
    · have : x ≠ s := by rintro rfl; exact hx ⟨s0, s3⟩
      simp [hx, this]
  · obtain rfl | rfl | rfl : s = 0 ∨ s = 1 ∨ s = 2 := by omega
    all_goals
      simp [HS.st] at h0
      simp [HS.cntK, HS.has, HS.put, HS.st, one, h0]
  · obtain rfl | rfl | rfl : s = 0 ∨ s = 1 ∨ s = 2 := by omega
    all_goals
      simp [HS.st] at h0
      simp [HS.cntG, HS.put, HS.st, one, h0]
      try omega

section
variable {w wA w1 : World} {B m : Nat} {S S' : HS} {vK vG v' : Value} {K G : List Int} {s : Int} {o : Obj}
theorem RefAt.block1 (h : RefAt w B m S vK vG K G) {v : Value} (hv : v.ownBlock ≠ some m) (hgrow : (w.alloc o).grownBy w1 v.ownBlock) : w1.heap[m]? = some (.cells (refCells S vK vG) 57 (0, 0)) := by
  have hlt := h.lt
  have e1 := hgrow.block m (by simp; omega) (fun e => hv e.symm)
  have e2 := (below_alloc1 w o).block m hlt
  rw [e1, e2, h.at_]
theorem RefAt.setK (h : RefAt w B m S vK vG K G) (hown : w1.ownsRow B 3 1 v' (K.length + 1) (K.map (Value.int .i64) ++ [.int .i64 s])) (hgrow : (w.alloc o).grownBy w1 vK.ownBlock) (hwh : v'.ownBlock = vK.ownBlock ∨ v'.ownBlock = some (w.alloc o).heap.size)
    (hc : refCells S' = refCells S) (hK : ∀ x, S'.has x = true ↔ (S.has x = true ∨ x = s)) (hG : ∀ x, ((0 ≤ x ∧ x < 3) ∧ S'.st x = 2) ↔ ((0 ≤ x ∧ x < 3) ∧ S.st x = 2)) (nK : S'.cntK = S.cntK + 1) (nG : S'.cntG = S.cntG) :
    IsRef (w1.setCell ⟨m, 1, none⟩ v') B m S' ∧ Below B w (w1.setCell ⟨m, 1, none⟩ v') := by
  have hm1 := h.block1 (own_type h.ownK h.at_) hgrow
  have hBw : B ≤ w.heap.size := by have := h.base; have := h.lt; omega
  have hback : ∀ k, k ≠ m → (w1.setCell ⟨m, 1, none⟩ v').heap[k]? = w1.heap[k]? := fun k hk => Below.heap_setCell _ _ _ _ hk
  refine ⟨⟨v', vG, K ++ [s], G, ⟨h.base, ?_, ?_, ?_, ?_, ?_, ?_, ?_, ?_⟩⟩, ?_⟩
  · rw [Joins.block_setCell hm1 v', hc]; rfl
  · have hl : (K ++ [s]).length = K.length + 1 := by simp
    have hm : (K ++ [s]).map (Value.int .i64) = K.map (Value.int .i64) ++ [.int .i64 s] := by simp
    rw [hl, hm]
    exact own_keepB hown fun k hk e => hback k (fun e2 => own_type hown hm1 (by rw [e, e2]))
  · have h1 : (w.alloc o).ownsRow B 3 1 vG G.length (G.map (Value.int .i64)) := h.ownG.alloc o
    have h2 : w1.ownsRow B 3 1 vG G.length (G.map (Value.int .i64)) := h1.kept hgrow (by
      cases hv : vG.ownBlock with
      | none => exact Or.inl rfl
      | some g => refine Or.inr fun e => ?_; exact h.apart g e.symm hv)
    exact own_keepB h2 fun k hk e => hback k (fun e2 => own_type h2 hm1 (by rw [e, e2]))
  · intro x; rw [List.mem_append, h.inK, hK]; simp
  · intro x; rw [h.inG, hG]
  · rw [nK, ← h.lenK]; simp
  · rw [nG, h.lenG]
  · intro g hg
    rcases hwh with e | e
    · exact h.apart g (by rw [← e, hg])
    · intro hv
      have := (World.ownsRow.lt h.ownG g hv).2
      rw [e] at hg
      have : (w.alloc o).heap.size = g := by simpa using hg
      simp at this; omega
  · exact (((Below.refl B w).alloc hBw o).grown hgrow (by simp; omega) (fun k hk => (World.ownsRow.lt h.ownK k hk).1)).setCell (p := ⟨m, 1, none⟩) h.base v'
theorem RefAt.setG (h : RefAt w B m S vK vG K G) (hown : w1.ownsRow B 3 1 v' (G.length + 1) (G.map (Value.int .i64) ++ [.int .i64 s])) (hgrow : (w.alloc o).grownBy w1 vG.ownBlock) (hwh : v'.ownBlock = vG.ownBlock ∨ v'.ownBlock = some (w.alloc o).heap.size)
    (hc : refCells S' = refCells S) (hK : ∀ x, S'.has x = true ↔ S.has x = true) (hG : ∀ x, ((0 ≤ x ∧ x < 3) ∧ S'.st x = 2) ↔ (((0 ≤ x ∧ x < 3) ∧ S.st x = 2) ∨ x = s)) (nK : S'.cntK = S.cntK) (nG : S'.cntG = S.cntG + 1) :
    IsRef (w1.setCell ⟨m, 2, none⟩ v') B m S' ∧ Below B w (w1.setCell ⟨m, 2, none⟩ v') := by
  have hm1 := h.block1 (own_type h.ownG h.at_) hgrow
  have hBw : B ≤ w.heap.size := by have := h.base; have := h.lt; omega
  have hback : ∀ k, k ≠ m → (w1.setCell ⟨m, 2, none⟩ v').heap[k]? = w1.heap[k]? := fun k hk => Below.heap_setCell _ _ _ _ hk
  refine ⟨⟨vK, v', K, G ++ [s], ⟨h.base, ?_, ?_, ?_, ?_, ?_, ?_, ?_, ?_⟩⟩, ?_⟩
  · rw [Joins.block_setCell hm1 v', hc]; rfl
  · have h1 : (w.alloc o).ownsRow B 3 1 vK K.length (K.map (Value.int .i64)) := h.ownK.alloc o
    have h2 : w1.ownsRow B 3 1 vK K.length (K.map (Value.int .i64)) := h1.kept hgrow (by
      cases hv : vK.ownBlock with
      | none => exact Or.inl rfl
      | some g => refine Or.inr fun e => ?_; exact h.apart g hv e.symm)
    exact own_keepB h2 fun k hk e => hback k (fun e2 => own_type h2 hm1 (by rw [e, e2]))
  · have hl : (G ++ [s]).length = G.length + 1 := by simp
    have hm : (G ++ [s]).map (Value.int .i64) = G.map (Value.int .i64) ++ [.int .i64 s] := by simp
    rw [hl, hm]
    exact own_keepB hown fun k hk e => hback k (fun e2 => own_type hown hm1 (by rw [e, e2]))
  · intro x; rw [h.inK, hK]
  · intro x; rw [List.mem_append, h.inG, hG]; simp
  · rw [nK, h.lenK]
  · rw [nG, ← h.lenG]; simp
  · intro g hg hv
    rcases hwh with e | e
    · exact h.apart g hg (by rw [← e, hv])
    · have := (World.ownsRow.lt h.ownK g hg).2
      rw [e] at hv
      have : (w.alloc o).heap.size = g := by simpa using hv
      simp at this; omega
  · exact (((Below.refl B w).alloc hBw o).grown hgrow (by simp; omega) (fun k hk => (World.ownsRow.lt h.ownG k hk).1)).setCell (p := ⟨m, 2, none⟩) h.base v'
/-- A store of a truth. -/
theorem RefAt.setB (h : RefAt w B m S vK vG K G) (i : Nat) (u : Value) (hc : (refCells S vK vG).setIfInBounds i u = refCells S' vK vG) (hK : ∀ x, S'.has x = S.has x) (hG : ∀ x, S'.st x = S.st x) (nK : S'.cntK = S.cntK) (nG : S'.cntG = S.cntG) :
    RefAt (w.setCell ⟨m, i, none⟩ u) B m S' vK vG K G ∧ Below B w (w.setCell ⟨m, i, none⟩ u) := by
  have hback : ∀ k, k ≠ m → (w.setCell ⟨m, i, none⟩ u).heap[k]? = w.heap[k]? := fun k hk => Below.heap_setCell _ _ _ _ hk
  refine ⟨⟨h.base, ?_, ?_, ?_, fun x => by rw [h.inK, hK], fun x => by rw [h.inG, hG], by rw [nK, h.lenK], by rw [nG, h.lenG], h.apart⟩, ?_⟩
  · rw [Joins.block_setCell h.at_ u, hc]
  · exact own_keepB h.ownK fun k hk e => hback k (fun e2 => own_type h.ownK h.at_ (by rw [e, e2]))
  · exact own_keepB h.ownG fun k hk e => hback k (fun e2 => own_type h.ownG h.at_ (by rw [e, e2]))
  · exact (Below.refl B w).setCell (p := ⟨m, i, none⟩) h.base u
end
/-- The ending of a writer. -/
def DidR (B m : Nat) (E : Int) (S' : HS) (w : World) (e : Ending) (w' : World) : Prop := e = .returned (.int .i64 E) ∧ IsRef w' B m S' ∧ Below B w w'

set_option maxHeartbeats 2000000 in
theorem rkeys_any {w : World} {B m : Nat} {S : HS} {vK vG : Value} {K G : List Int} (h : RefAt w B m S vK vG K G) (hok : S.ok) (s : Int) :
    Calls Try.prog 40 #[.pointer (some ⟨m, 0, none⟩), .int .i64 s] w (DidR B m (S.keysE s) (S.keysS s) w) := by
  obtain ⟨i0, hi, hz0, hz1, hz2⟩ := info_parts Try.info3
  obtain ⟨c0, c1, c2, c3, c4, c5⟩ := h.cells
  have hin := st_in hok s
  have hBw : B ≤ w.heap.size := by have := h.base; have := h.lt; omega
  have hK3 : K.length ≤ 3 := by have := h.lenK; have := cntK_le S; omega
  have hiK := in_any vK K s w (ints_of_own h.ownK) (by omega)
  have hiG := in_any vG G s w (ints_of_own h.ownG) (by have := h.lenG; have := cntG_le S; omega)
  rw [h.hasK] at hiK
  rw [h.goneG] at hiG
  have hsp := rspace_any s w
  unfold HS.keysE HS.keysS
  by_cases hs : 0 ≤ s ∧ s < 3
  · rw [decide_eq_true hs] at hsp
    rw [if_pos hs]
    by_cases h2 : S.st s = 2
    · rw [decide_eq_true ⟨hs, h2⟩] at hiG
      rw [if_pos h2, if_neg (by omega)]
      go_enter Try.func40, Try.ntmps40
      go_wp2_with fail
      refine hsp.mono ?_; rintro e w' ⟨rfl, rfl⟩
      go_wp2_with fail
      refine hiG.mono ?_; rintro e w' ⟨rfl, rfl⟩
      go_wp2_with fail
      go_ret
      exact ⟨rfl, ⟨_, _, _, _, h⟩, Below.refl _ _⟩
    · rw [decide_eq_false (fun hh => h2 hh.2)] at hiG
      rw [if_neg h2]
      by_cases h0 : S.st s = 0
      · have hh : S.has s = false := by
          cases e : S.has s
          · rfl
          · exact absurd h0 ((has_iff S s).1 e).2
        rw [hh] at hiK
        rw [if_pos ⟨hs, h0⟩]
        obtain ⟨p1, p2, p3, p4⟩ := putK hs.1 hs.2 h0
        go_enter Try.func40, Try.ntmps40
        go_wp2_with fail
        refine hsp.mono ?_; rintro e w' ⟨rfl, rfl⟩
        go_wp2_with fail
        refine hiG.mono ?_; rintro e w' ⟨rfl, rfl⟩
        go_wp2_with fail
        refine hiK.mono ?_; rintro e w' ⟨rfl, rfl⟩
        go_wp2_with (at_builtin; refine wpList_append_where rfl _ _ 36 rfl B 3 i0 (.int .i64 0) 1 8 Try.underlying36 hi hz0 hz1 hz2 rfl (by decide) vK K.length _ rfl (h.ownK.alloc _) ⟨w.heap.size, 0, none⟩ 1 1 [.int .i64 s] rfl rfl ?c1 ?c2 ?c3 ?c4 ?c5 ?_)
        case c1 => exact cell_one_new _ _ _
        case c2 => simp [Value.oneCell']
        case c3 => unfold maxLen; omega
        case c4 => omega
        case c5 => simp; omega
        intro v' w1 hown' hgrow hwh
        obtain ⟨va, vl, vc, rfl⟩ := own_slice hown'
        have hm1 := h.block1 (own_type h.ownK h.at_) hgrow
        have d1 : w1.cell? ⟨m, 1, none⟩ = some vK := by simp [World.cell?, hm1, refCells]
        have f1 : w1.frozen? ⟨m, 1, none⟩ = false := by simp [World.frozen?, hm1]
        have hfin := h.setK (S' := S.put s 1) hown' hgrow (by simpa using hwh) rfl p1 p2 p3 p4
        have HF := hide hfin
        clear hfin hm1
        go_wp2_with fail
        go_ret
        exact ⟨rfl, HF.out.1, HF.out.2⟩
      · have hh : S.has s = true := (has_iff S s).2 ⟨hs, h0⟩
        rw [hh] at hiK
        rw [if_neg (fun x => h0 x.2)]
        go_enter Try.func40, Try.ntmps40
        go_wp2_with fail
        refine hsp.mono ?_; rintro e w' ⟨rfl, rfl⟩
        go_wp2_with fail
        refine hiG.mono ?_; rintro e w' ⟨rfl, rfl⟩
        go_wp2_with fail
        refine hiK.mono ?_; rintro e w' ⟨rfl, rfl⟩
        go_wp2_with fail
        go_ret
        exact ⟨rfl, ⟨_, _, _, _, h⟩, Below.refl _ _⟩
  · rw [decide_eq_false hs] at hsp
    rw [if_neg hs, if_neg (fun hh => hs hh.1)]
    go_enter Try.func40, Try.ntmps40
    go_wp2_with fail
    refine hsp.mono ?_; rintro e w' ⟨rfl, rfl⟩
    go_wp2_with fail
    go_ret
    exact ⟨rfl, ⟨_, _, _, _, h⟩, Below.refl _ _⟩
set_option maxHeartbeats 2000000 in
theorem rdisc_any {w : World} {B m : Nat} {S : HS} {vK vG : Value} {K G : List Int} (h : RefAt w B m S vK vG K G) (hok : S.ok) (s : Int) :
    Calls Try.prog 41 #[.pointer (some ⟨m, 0, none⟩), .int .i64 s] w (DidR B m (S.discE s) (S.discS s) w) := by
  obtain ⟨i0, hi, hz0, hz1, hz2⟩ := info_parts Try.info3
  obtain ⟨c0, c1, c2, c3, c4, c5⟩ := h.cells
  have hin := st_in hok s
  have hBw : B ≤ w.heap.size := by have := h.base; have := h.lt; omega
  have hG3 : G.length ≤ 3 := by have := h.lenG; have := cntG_le S; omega
  have hli := rlives_any h hok s
  rw [lives_needs_r S s] at hli
  have hsp := rspace_any s w
  unfold HS.discE HS.discS
  by_cases hs : 0 ≤ s ∧ s < 3
  · rw [decide_eq_true hs] at hsp
    by_cases h2 : s = 2
    · rw [if_pos h2, if_neg (fun hh => hh.1 h2)]
      subst h2
      go_enter Try.func41, Try.ntmps41
      go_wp2_with fail
      refine hsp.mono ?_; rintro e w' ⟨rfl, rfl⟩
      go_wp2_with fail
      go_ret
      exact ⟨rfl, ⟨_, _, _, _, h⟩, Below.refl _ _⟩
    · rw [if_neg h2]
      by_cases h0 : S.needs s = 0
      · have h1 : S.st s = 1 := by
          unfold HS.needs at h0
          rw [if_pos hs] at h0
          by_cases e : S.st s = 1
          · exact e
          · rw [if_neg e] at h0; omega
        rw [decide_eq_true h0] at hli
        rw [if_pos ⟨h2, h0⟩, h0]
        obtain ⟨p1, p2, p3, p4⟩ := putG hs.1 hs.2 h1
        go_enter Try.func41, Try.ntmps41
        go_wp2_with fail
        refine hsp.mono ?_; rintro e w' ⟨rfl, rfl⟩
        go_wp2_with fail
        refine hli.mono ?_; rintro e w' ⟨rfl, rfl⟩
        go_wp2_with (at_builtin; refine wpList_append_where rfl _ _ 36 rfl B 3 i0 (.int .i64 0) 1 8 Try.underlying36 hi hz0 hz1 hz2 rfl (by decide) vG G.length _ rfl (h.ownG.alloc _) ⟨w.heap.size, 0, none⟩ 1 1 [.int .i64 s] rfl rfl ?c1 ?c2 ?c3 ?c4 ?c5 ?_)
        case c1 => exact cell_one_new _ _ _
        case c2 => simp [Value.oneCell']
        case c3 => unfold maxLen; omega
        case c4 => omega
        case c5 => simp; omega
        intro v' w1 hown' hgrow hwh
        obtain ⟨va, vl, vc, rfl⟩ := own_slice hown'
        have hm1 := h.block1 (own_type h.ownG h.at_) hgrow
        have d1 : w1.cell? ⟨m, 2, none⟩ = some vG := by simp [World.cell?, hm1, refCells]
        have f1 : w1.frozen? ⟨m, 2, none⟩ = false := by simp [World.frozen?, hm1]
        have hfin := h.setG (S' := S.put s 2) hown' hgrow (by simpa using hwh) rfl p1 p2 p3 p4
        have HF := hide hfin
        clear hfin hm1
        go_wp2_with fail
        go_ret
        exact ⟨rfl, HF.out.1, HF.out.2⟩
      · rw [decide_eq_false h0] at hli
        rw [if_neg (fun hh => h0 hh.2)]
        have hE : S.needs s = 160 := by
          unfold HS.needs at h0 ⊢
          rw [if_pos hs] at h0 ⊢
          by_cases e : S.st s = 1
          · rw [if_pos e] at h0; omega
          · rw [if_neg e]
        rw [hE]
        clear hE h0
        go_enter Try.func41, Try.ntmps41
        go_wp2_with fail
        refine hsp.mono ?_; rintro e w' ⟨rfl, rfl⟩
        go_wp2_with fail
        refine hli.mono ?_; rintro e w' ⟨rfl, rfl⟩
        go_wp2_with fail
        go_ret
        exact ⟨rfl, ⟨_, _, _, _, h⟩, Below.refl _ _⟩
  · rw [decide_eq_false hs] at hsp
    have hn : S.needs s = 9 := by unfold HS.needs; rw [if_neg hs]
    have h2 : s ≠ 2 := by omega
    rw [if_neg h2, hn, if_neg (by omega)]
    go_enter Try.func41, Try.ntmps41
    go_wp2_with fail
    refine hsp.mono ?_; rintro e w' ⟨rfl, rfl⟩
    go_wp2_with fail
    go_ret
    exact ⟨rfl, ⟨_, _, _, _, h⟩, Below.refl _ _⟩

set_option maxHeartbeats 1000000 in
theorem rval_any {w : World} {B m : Nat} {S : HS} {vK vG : Value} {K G : List Int} (h : RefAt w B m S vK vG K G) : Calls Try.prog 42 #[.pointer (some ⟨m, 0, none⟩)] w (DidR B m 0 S.valS w) := by
  obtain ⟨c0, c1, c2, c3, c4, c5⟩ := h.cells
  have f := h.free 3
  have hfin := h.setB (S' := S.valS) 3 (.bool true) rfl (fun _ => rfl) (fun _ => rfl) rfl rfl
  have HF := hide hfin
  clear hfin
  go_enter Try.func42, Try.ntmps42
  go_wp2_with fail
  go_ret
  exact ⟨rfl, ⟨_, _, _, _, HF.out.1⟩, HF.out.2⟩
set_option maxHeartbeats 1000000 in
theorem rconf_any {w : World} {B m : Nat} {S : HS} {vK vG : Value} {K G : List Int} (h : RefAt w B m S vK vG K G) (hok : S.ok) : Calls Try.prog 43 #[.pointer (some ⟨m, 0, none⟩)] w (DidR B m (S.needs 2) S.confS w) := by
  obtain ⟨c0, c1, c2, c3, c4, c5⟩ := h.cells
  have f3 := h.free 3
  have f4 := h.free 4
  have hli := rlives_any h hok 2
  rw [lives_needs_r S 2] at hli
  unfold HS.confS
  by_cases h0 : S.needs 2 = 0
  · rw [if_pos h0, h0]
    rw [decide_eq_true h0] at hli
    have k1 := h.setB (S' := { S with c := true }) 4 (.bool true) rfl (fun _ => rfl) (fun _ => rfl) rfl rfl
    have k2 := k1.1.setB (S' := { S with v := true, c := true }) 3 (.bool true) rfl (fun _ => rfl) (fun _ => rfl) rfl rfl
    obtain ⟨d0, d1, d2, d3, d4, d5⟩ := k1.1.cells
    have g3 := k1.1.free 3
    have HF := hide (And.intro k2.1 (k1.2.trans k2.2))
    clear k1 k2 h0
    go_enter Try.func43, Try.ntmps43
    go_wp2_with fail
    refine hli.mono ?_; rintro e w' ⟨rfl, rfl⟩
    go_wp2_with fail
    go_ret
    exact ⟨rfl, ⟨_, _, _, _, HF.out.1⟩, HF.out.2⟩
  · rw [if_neg h0]
    rw [decide_eq_false h0] at hli
    have hE : S.needs 2 = 160 := by
      unfold HS.needs at h0 ⊢
      rw [if_pos (by omega)] at h0 ⊢
      by_cases e : S.st 2 = 1
      · rw [if_pos e] at h0; omega
      · rw [if_neg e]
    rw [hE]
    clear hE h0
    go_enter Try.func43, Try.ntmps43
    go_wp2_with fail
    refine hli.mono ?_; rintro e w' ⟨rfl, rfl⟩
    go_wp2_with fail
    go_ret
    exact ⟨rfl, ⟨_, _, _, _, h⟩, Below.refl _ _⟩
set_option maxHeartbeats 1000000 in
theorem rans_any {w : World} {B m : Nat} {S : HS} {vK vG : Value} {K G : List Int} (h : RefAt w B m S vK vG K G) (hok : S.ok) (s : Int) : Calls Try.prog 44 #[.pointer (some ⟨m, 0, none⟩), .int .i64 s] w (DidR B m (S.needs s) (S.ansS s) w) := by
  obtain ⟨c0, c1, c2, c3, c4, c5⟩ := h.cells
  have f5 := h.free 5
  have hli := rlives_any h hok s
  rw [lives_needs_r S s] at hli
  have hsp := rspace_any s w
  unfold HS.ansS
  by_cases hs : 0 ≤ s ∧ s < 3
  · rw [decide_eq_true hs] at hsp
    by_cases h0 : S.needs s = 0
    · rw [decide_eq_true h0] at hli
      rw [h0]
      have hfin : RefAt (w.setCell ⟨m, 5, none⟩ (.bool (S.an || decide (s ≠ 0)))) B m (if (0 : Int) = 0 ∧ s ≠ 0 then { S with an := true } else S) vK vG K G ∧ Below B w (w.setCell ⟨m, 5, none⟩ (.bool (S.an || decide (s ≠ 0)))) := by
        by_cases hs0 : s = 0
        · rw [if_neg (fun hh => hh.2 hs0)]
          exact h.setB (S' := S) 5 _ (by simp [hs0, refCells]) (fun _ => rfl) (fun _ => rfl) rfl rfl
        · rw [if_pos ⟨rfl, hs0⟩]
          exact h.setB (S' := { S with an := true }) 5 _ (by simp [hs0, refCells]) (fun _ => rfl) (fun _ => rfl) rfl rfl
      obtain ⟨T, hT⟩ : ∃ T, (if (0 : Int) = 0 ∧ s ≠ 0 then { S with an := true } else S) = T := ⟨_, rfl⟩
      rw [hT] at hfin ⊢
      have HF := hide hfin
      clear hfin h0 hT
      obtain ⟨a, ha⟩ : ∃ a, S.an = a := ⟨_, rfl⟩
      rw [ha] at c5
      rw [ha] at HF
      clear ha
      cases a
      all_goals
        go_enter Try.func44, Try.ntmps44
        go_wp2_with fail
        refine hsp.mono ?_; rintro e w' ⟨rfl, rfl⟩
        go_wp2_with fail
        refine hli.mono ?_; rintro e w' ⟨rfl, rfl⟩
        go_wp2_with fail
        go_ret
        have q := HF.out
        first
          | (rw [show (false || decide (s ≠ 0)) = (s != 0) by by_cases e : s = 0 <;> simp [e]] at q; exact ⟨rfl, ⟨_, _, _, _, q.1⟩, q.2⟩)
          | exact ⟨rfl, ⟨_, _, _, _, q.1⟩, q.2⟩
    · rw [decide_eq_false h0] at hli
      rw [if_neg (fun hh => h0 hh.1)]
      have hE : S.needs s = 160 := by
        unfold HS.needs at h0 ⊢
        rw [if_pos hs] at h0 ⊢
        by_cases e : S.st s = 1
        · rw [if_pos e] at h0; omega
        · rw [if_neg e]
      rw [hE]
      clear hE h0
      go_enter Try.func44, Try.ntmps44
      go_wp2_with fail
      refine hsp.mono ?_; rintro e w' ⟨rfl, rfl⟩
      go_wp2_with fail
      refine hli.mono ?_; rintro e w' ⟨rfl, rfl⟩
      go_wp2_with fail
      go_ret
      exact ⟨rfl, ⟨_, _, _, _, h⟩, Below.refl _ _⟩
  · rw [decide_eq_false hs] at hsp
    have hn : S.needs s = 9 := by unfold HS.needs; rw [if_neg hs]
    rw [hn, if_neg (by omega)]
    go_enter Try.func44, Try.ntmps44
    go_wp2_with fail
    refine hsp.mono ?_; rintro e w' ⟨rfl, rfl⟩
    go_wp2_with fail
    go_ret
    exact ⟨rfl, ⟨_, _, _, _, h⟩, Below.refl _ _⟩
/-! New and Copy. -/
theorem ints_one (xs : List Int) : ∀ u ∈ xs.map (Value.int .i64), u.oneCell' = true := by
  intro u hu
  rw [List.mem_map] at hu
  obtain ⟨j, _, rfl⟩ := hu
  rfl
theorem new_ref (sv : Bool) (w : World) : IsRef ((w.alloc (Obj.cells #[Value.int IntKind.i64 0] 3)).alloc (Obj.cells #[Value.bool sv, Value.slice (some { block := w.heap.size, off := 0 }) 1 1, Value.slice none 0 0, Value.bool (!sv), Value.bool false, Value.bool false] 57)) w.heap.size (w.heap.size + 1) (HS.start sv) := by
  refine ⟨.slice (some ⟨w.heap.size, 0, none⟩) 1 1, .slice none 0 0, [0], [], ⟨by omega, ?_, ?_, World.ownsRow_nil _ _ _ _, ?_, ?_, ?_, ?_, ?_⟩⟩
  · show ((w.heap.push _).push _)[w.heap.size + 1]? = _
    have : (w.heap.push (Obj.cells #[Value.int IntKind.i64 0] 3)).size = w.heap.size + 1 := by simp
    rw [← this, Array.getElem?_push_size]
    rfl
  · exact (World.ownsRow_lit (e := 3) (size := 1) (base := w.heap.size) w #[.int .i64 0] 1 (Nat.le_refl _) (by unfold maxLen; omega) rfl).alloc _
  · intro s
    rw [has_iff]
    simp [HS.start, HS.st]
    omega
  · intro s
    simp [HS.start, HS.st]
    intro h
    by_cases h3 : s = 0 <;> simp [h3]
  · cases sv <;> decide
  · cases sv <;> decide
  · intro g _; simp [Value.ownBlock]
set_option maxHeartbeats 2000000 in
theorem rnew_any (sv : Bool) (w : World) : Calls Try.prog 22 #[.bool sv] w fun e w' => ∃ m, e = .returned (.pointer (some ⟨m, 0, none⟩)) ∧ IsRef w' w.heap.size m (HS.start sv) ∧ Below w.heap.size w w' := by
  go_enter Try.func22, Try.ntmps22
  cases sv
  all_goals
    go_wp2_with fail
    go_ret
    refine ⟨_, rfl, new_ref _ w, ?_⟩
    exact ((Below.refl _ _).alloc (Nat.le_refl _) _).alloc (by simp) _
set_option maxHeartbeats 4000000 in
theorem rcopy_any {w : World} {B m : Nat} {S : HS} {vK vG : Value} {K G : List Int} (h : RefAt w B m S vK vG K G) : Calls Try.prog 25 #[.pointer (some ⟨m, 0, none⟩)] w fun e w' => ∃ m', e = .returned (.pointer (some ⟨m', 0, none⟩)) ∧ IsRef w' w.heap.size m' S ∧ Below w.heap.size w w' := by
  obtain ⟨i0, hi, hz0, hz1, hz2⟩ := info_parts Try.info3
  obtain ⟨c0, c1, c2, c3, c4, c5⟩ := h.cells
  have hK3 : K.length ≤ 3 := by have := h.lenK; have := cntK_le S; omega
  have hG3 : G.length ≤ 3 := by have := h.lenG; have := cntG_le S; omega
  have hlt := h.lt
  obtain ⟨ka, kl, kc, rfl⟩ := own_slice h.ownK
  obtain ⟨ga, gl, gc, rfl⟩ := own_slice h.ownG
  have hone := ints_one K
  have hone2 := ints_one G
  obtain ⟨n, hn⟩ : ∃ n, n = w.heap.size := ⟨_, rfl⟩
  obtain ⟨W, hW⟩ : ∃ W, W = w.alloc (.cells (refCells S (.slice ka kl kc) (.slice ga gl gc)) 57) := ⟨_, rfl⟩
  have hb0 : Below w.heap.size w W := by rw [hW]; exact below_alloc1 w _
  have hA := h.keep hb0
  have hnew : W.heap[w.heap.size]? = some (.cells (refCells S (.slice ka kl kc) (.slice ga gl gc)) 57 (0, 0)) := by
    rw [hW]
    show (w.heap.push _)[w.heap.size]? = _
    simp
  have hsz : w.heap.size < W.heap.size := by rw [hW]; simp
  go_enter Try.func25, Try.ntmps25
  go_upto_region 3 with (fail)
  have hWW : (w.alloc (Obj.cells #[Value.bool S.sv, .slice ka kl kc, .slice ga gl gc, Value.bool S.v, Value.bool S.c, Value.bool S.an] 57)) = W := hW.symm
  rw [hWW]
  clear hWW hW
  obtain ⟨d0, d1, d2, d3, d4, d5⟩ := hA.cells
  clear c0 c1 c2 c3 c4 c5
  go_cut [9, 10, 11, 12, 13, 14, 15] (fun _ _ _ _ _ _ _ wc => ∃ v1, wc.heap[w.heap.size]? = some (.cells (refCells S v1 (.slice ga gl gc)) 57 (0, 0)) ∧ wc.ownsRow w.heap.size 3 1 v1 K.length (K.map (Value.int .i64)) ∧ Below w.heap.size w wc)
  case first =>
    rcases h.ownK.2 with ⟨hv, hl0⟩ | ⟨g, cap, cur, hv, hgB, hgg, hgn, hgc, hgs, hgt⟩
    · cases hv
      have hK0 := List.length_eq_zero_iff.1 hl0
      subst hK0
      have e1 : W.cell? ⟨w.heap.size, 1, none⟩ = some (.slice none 0 0) := by simp [World.cell?, hnew, refCells]
      have f1 : W.frozen? ⟨w.heap.size, 1, none⟩ = false := by simp [World.frozen?, hnew]
      go_wp2_with (at_builtin; refine wpList_append_own_none rfl _ _ 36 rfl w.heap.size 3 i0 1 Try.underlying36 hi _ 0 [] rfl (World.ownsRow_nil W w.heap.size 3 1) rfl ?_)
      go_meet
      case rel =>
        refine ⟨.slice none 0 0, ?_, World.ownsRow_nil _ _ _ _, hb0.setCell (p := ⟨w.heap.size, 1, none⟩) (Nat.le_refl _) _⟩
        rw [Joins.block_setCell hnew]; rfl
    · cases hv
      go_wp2_with (at_builtin; refine wpList_append_where rfl _ _ 36 rfl w.heap.size 3 i0 (.int .i64 0) 1 8 Try.underlying36 hi hz0 hz1 hz2 rfl (by decide) (.slice none 0 0) 0 [] rfl (World.ownsRow_nil W w.heap.size 3 1) ⟨g, 0, none⟩ K.length _ (K.map (Value.int .i64)) rfl (by simp) (hA.ownK.cells (g := g) rfl) hone (by unfold maxLen; omega) (by omega) hb0.size ?_)
      intro v1 w1 hown1 hgrow hwh
      obtain ⟨va, vl, vc, rfl⟩ := own_slice hown1
      have hm1 : w1.heap[w.heap.size]? = some (.cells (refCells S (.slice (some ⟨g, 0, none⟩) K.length kc) (.slice ga gl gc)) 57 (0, 0)) :=
        (hgrow.block w.heap.size hsz (by simp [Value.ownBlock])).trans hnew
      have e1 : w1.cell? ⟨w.heap.size, 1, none⟩ = some (.slice (some ⟨g, 0, none⟩) K.length kc) := by simp [World.cell?, hm1, refCells]
      have f1 : w1.frozen? ⟨w.heap.size, 1, none⟩ = false := by simp [World.frozen?, hm1]
      have hown2 : w1.ownsRow w.heap.size 3 1 (.slice va vl vc) K.length (K.map (Value.int .i64)) := by
        first | exact hown1 | (rw [Nat.zero_add, List.nil_append] at hown1; exact hown1)
      go_wp2_with fail
      go_meet
      case rel =>
        refine ⟨_, by rw [Joins.block_setCell hm1]; rfl, own_keepB hown2 fun k hk e => Below.heap_setCell _ _ _ _ (fun e2 => own_type hown2 hm1 (by rw [e, e2])), ?_⟩
        exact (hb0.grown hgrow hb0.size (fun k hk => by cases hk)).setCell (p := ⟨w.heap.size, 1, none⟩) (Nat.le_refl _) _
  case rest =>
    obtain ⟨v1, hnew1, ho1, hb1⟩ := hcut
    have hB := h.keep hb1
    obtain ⟨va, vl, vc, rfl⟩ := own_slice ho1
    clear d0 d1 d2 d3 d4 d5 hA hb0 hnew
    obtain ⟨d0, d1, d2, d3, d4, d5⟩ := hB.cells
    have hsz1 : w.heap.size < wc.heap.size := by
      rcases Nat.lt_or_ge w.heap.size wc.heap.size with h' | h'
      · exact h'
      · rw [Array.getElem?_eq_none h'] at hnew1; cases hnew1
    have hap : ∀ g, (Value.slice va vl vc).ownBlock = some g → g < wc.heap.size := fun g hg => (World.ownsRow.lt ho1 g hg).2
    rcases h.ownG.2 with ⟨hv, hl0⟩ | ⟨g, cap, cur, hv, hgB, hgg, hgn, hgc, hgs, hgt⟩
    · cases hv
      have hG0 := List.length_eq_zero_iff.1 hl0
      subst hG0
      have e1 : wc.cell? ⟨w.heap.size, 2, none⟩ = some (.slice none 0 0) := by simp [World.cell?, hnew1, refCells]
      have f1 : wc.frozen? ⟨w.heap.size, 2, none⟩ = false := by simp [World.frozen?, hnew1]
      go_wp2_with (at_builtin; refine wpList_append_own_none rfl _ _ 36 rfl w.heap.size 3 i0 1 Try.underlying36 hi _ 0 [] rfl (World.ownsRow_nil wc w.heap.size 3 1) rfl ?_)
      go_ret
      refine ⟨w.heap.size, rfl, ⟨_, .slice none 0 0, K, [], ⟨Nat.le_refl _, by rw [Joins.block_setCell hnew1]; rfl, own_keepB ho1 fun k hk e => Below.heap_setCell _ _ _ _ (fun e2 => own_type ho1 hnew1 (by rw [e, e2])), World.ownsRow_nil _ _ _ _, h.inK, h.inG, h.lenK, h.lenG, fun g _ hh => by cases hh⟩⟩, ?_⟩
      exact hb1.setCell (p := ⟨w.heap.size, 2, none⟩) (Nat.le_refl _) _
    · cases hv
      go_wp2_with (at_builtin; refine wpList_append_where rfl _ _ 36 rfl w.heap.size 3 i0 (.int .i64 0) 1 8 Try.underlying36 hi hz0 hz1 hz2 rfl (by decide) (.slice none 0 0) 0 [] rfl (World.ownsRow_nil wc w.heap.size 3 1) ⟨g, 0, none⟩ G.length _ (G.map (Value.int .i64)) rfl (by simp) (hB.ownG.cells (g := g) rfl) hone2 (by unfold maxLen; omega) (by omega) hb1.size ?_)
      intro v2 w2 hown2 hgrow hwh
      obtain ⟨xa, xl, xc, rfl⟩ := own_slice hown2
      have hm1 : w2.heap[w.heap.size]? = some (.cells (refCells S (.slice va vl vc) (.slice (some ⟨g, 0, none⟩) G.length gc)) 57 (0, 0)) :=
        (hgrow.block w.heap.size hsz1 (by simp [Value.ownBlock])).trans hnew1
      have e1 : w2.cell? ⟨w.heap.size, 2, none⟩ = some (.slice (some ⟨g, 0, none⟩) G.length gc) := by simp [World.cell?, hm1, refCells]
      have f1 : w2.frozen? ⟨w.heap.size, 2, none⟩ = false := by simp [World.frozen?, hm1]
      have hown3 : w2.ownsRow w.heap.size 3 1 (.slice xa xl xc) G.length (G.map (Value.int .i64)) := by
        first | exact hown2 | (rw [Nat.zero_add, List.nil_append] at hown2; exact hown2)
      have ho2 : w2.ownsRow w.heap.size 3 1 (.slice va vl vc) K.length (K.map (Value.int .i64)) := ho1.kept hgrow (by
        cases hv : (Value.slice va vl vc).ownBlock with
        | none => exact Or.inl rfl
        | some g => exact Or.inr (by simp [Value.ownBlock]))
      go_wp2_with fail
      go_ret
      refine ⟨w.heap.size, rfl, ⟨_, .slice xa xl xc, K, G, ⟨Nat.le_refl _, by rw [Joins.block_setCell hm1]; rfl, own_keepB ho2 fun k hk e => Below.heap_setCell _ _ _ _ (fun e2 => own_type ho2 hm1 (by rw [e, e2])), own_keepB hown3 fun k hk e => Below.heap_setCell _ _ _ _ (fun e2 => own_type hown3 hm1 (by rw [e, e2])), h.inK, h.inG, h.lenK, h.lenG, ?_⟩⟩, ?_⟩
      · intro g1 hg1 hx
        have hlt1 := hap g1 hg1
        rcases hwh with e | e
        · rw [hx] at e; cases e
        · rw [hx] at e
          have : g1 = wc.heap.size := by simpa using e
          omega
      · exact (hb1.grown hgrow hb1.size (fun k hk => by cases hk)).setCell (p := ⟨w.heap.size, 2, none⟩) (Nat.le_refl _) _
end Go.Proofs.Ytkhjfknmjbffdaa
