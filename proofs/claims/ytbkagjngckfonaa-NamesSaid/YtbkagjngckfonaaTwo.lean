/- Two rows of the call's own: an append to one leaves the other, and they stay apart. -/
import Derived.WalkKit
import Derived.Lib.Hide
namespace Go.Proofs.Ytbkagjngckfonaa
open Go.RowKit
set_option linter.unusedVariables false

section
variable {P : Program} {w : World}

theorem append_where (base : Nat) (t ty e : TypeId) (i : TypeInfo) (z : Value) (size bytes : Nat) (ht : P.underlying t = some (.slice e)) (hi : P.info? e = some i) (hz : i.zero = some z)
    (hsize : i.size = size) (hby : i.bytes = bytes) (hzs : z.cells.size = size) (hsz : 0 < size)
    (v : Value) (n : Nat) (xs : List Value) (hown : w.ownsRow base e size v n xs)
    (a : Addr) (m c : Nat) (news : List Value) (hl : news.length = m * size) (hnews : ∀ j u, news[j]? = some u → w.cell? (a.add j) = some u) (h1 : ∀ u ∈ news, u.oneCell' = true)
    (h63 : n + m ≤ maxLen) (hbytes : (n + m) * bytes ≤ 140737488355328) (hbase : base ≤ w.heap.size) (hv : v.ownBlock ≠ none) :
    ∃ v' w', (Builtin.append_ #[t, t] ty #[v, .slice (some a) m c]).run P w = .ok v' w' ∧ w'.ownsRow base e size v' (n + m) (xs ++ news) ∧ w.grownBy w' v.ownBlock ∧
      (v'.ownBlock = v.ownBlock ∨ v'.ownBlock = some w.heap.size) := by
  obtain ⟨v', w', hr, ho, hg, _⟩ := run_append_own w base t ty e i z size bytes ht hi hz hsize hby hzs hsz v n xs hown a m c news hl hnews h1 h63 hbytes hbase
  refine ⟨v', w', hr, ho, hg, ?_⟩
  subst hsize
  subst hby
  rcases hown.2 with ⟨rfl, _⟩ | ⟨g, cap, cur, rfl, hbg, hgg, hnc, hcm, hcs, htake⟩
  · exact absurd rfl hv
  · by_cases hroom : n + m ≤ cap
    · have hfit : n * i.size + news.length ≤ cur.size := by rw [hl, hcs, ← Nat.add_mul]; exact Nat.mul_le_mul_right _ hroom
      have h2 := run_append_room w (P := P) t ty e i ht hi g n cap cur hgg a m c news hl hnews h1 hroom hfit
      rw [hr] at h2
      simp only [Result.ok.injEq] at h2
      left; rw [h2.1]; rfl
    · have hsm : n + m ≤ 9223372036854775807 := by simp only [maxLen] at h63; omega
      have h2 := run_append_grow w (P := P) t ty e i z ht hi hz ⟨g, 0, none⟩ n cap xs hown.1 (hown.cells (g := g) rfl) a m c news hl hnews (by omega) (by omega) (growslice_fits (by omega) hbytes)
      rw [hr] at h2
      simp only [Result.ok.injEq] at h2
      right; rw [h2.1]; rfl

/-- 'append' to one of two rows of the call's own. -/
theorem wpList_append_two {ops : Array Oper} {rest : List Oper} {o : Oper} {a : Act} {Q : Exit → Act → World → Prop} (hgd : o.guard = none) (s x : Operand) (t : TypeId)
    (ho : o.op = .call { callee := .builtin .append, args := #[s, x], argTypes := #[t, t] })
    (base : Nat) (e : TypeId) (i : TypeInfo) (z : Value) (size bytes : Nat) (ht : P.underlying t = some (.slice e)) (hi : P.info? e = some i) (hz : i.zero = some z)
    (hsize : i.size = size) (hby : i.bytes = bytes) (hzs : z.cells.size = size) (hsz : 0 < size)
    (v : Value) (n : Nat) (xs : List Value) (hs : a.eval s = v) (hown : w.ownsRow base e size v n xs) (hv : v.ownBlock ≠ none)
    (u : Value) (nu : Nat) (us : List Value) (hu : w.ownsRow base e size u nu us) (hne : u.ownBlock ≠ v.ownBlock)
    (ad : Addr) (m c : Nat) (news : List Value) (hx : a.eval x = .slice (some ad) m c) (hl : news.length = m * size) (hnews : ∀ j u, news[j]? = some u → w.cell? (ad.add j) = some u) (h1 : ∀ u ∈ news, u.oneCell' = true)
    (h63 : n + m ≤ maxLen) (hbytes : (n + m) * bytes ≤ 140737488355328) (hbase : base ≤ w.heap.size)
    (h : ∀ v' w', w'.ownsRow base e size v' (n + m) (xs ++ news) → v'.ownBlock ≠ none → w'.ownsRow base e size u nu us → u.ownBlock ≠ v'.ownBlock → Below base w w' → wpList P ops Q rest (a.put o.dst v') w') : wpList P ops Q (o :: rest) a w := by
  refine wpList_plain hgd fun K hK => ?_
  obtain ⟨v', w', hr, h2, h3, h4⟩ := append_where (P := P) base t o.type e i z size bytes ht hi hz hsize hby hzs hsz v n xs hown ad m c news hl hnews h1 h63 hbytes hbase hv
  unfold Oper.wp execOp
  simp only [ho, resolve, invoke, builtin, Sem.run_bind, Sem.run_pure, Result.andThen_ok, List.map_toArray, List.map_cons, List.map_nil, hs, hx, hr]
  have hlt : ∀ k, u.ownBlock = some k → k < w.heap.size := fun k hk => (hu.lt k hk).2
  have hfrom : ∀ k, v.ownBlock = some k → base ≤ k := fun k hk => (hown.lt k hk).1
  refine hK _ _ (h v' w' h2 ?_ (hu.kept h3 (Or.inr hne)) ?_ ((Below.refl _ _).grown h3 hbase hfrom))
  · rcases h4 with h4 | h4
    · rw [h4]; exact hv
    · rw [h4]; simp
  · rcases h4 with h4 | h4
    · rw [h4]; exact hne
    · rw [h4]
      intro e
      exact Nat.lt_irrefl _ (hlt _ e)
end

theorem own_lit {w : World} {base : Nat} {e : TypeId} (cs : Array Value) (n : Nat) (xs : List Value) (hx : cs.toList = xs) (hn : cs.size = n) (hb : base ≤ w.heap.size) (hm : n ≤ maxLen) :
    (w.alloc (.cells cs e)).ownsRow base e 1 (.slice (some ⟨w.heap.size, 0, none⟩) n n) n xs := by
  subst hx
  exact World.ownsRow_lit w cs n hb hm (by rw [hn, Nat.mul_one])

/-- The cells of a block that was just laid. -/
theorem cells_lit {w : World} {e : TypeId} (cs : Array Value) (news : List Value) (hx : cs.toList = news) :
    ∀ j u, news[j]? = some u → (w.alloc (.cells cs e)).cell? (Addr.add ⟨w.heap.size, 0, none⟩ j) = some u := by
  intro j u hj
  have h1 : (Addr.add ⟨w.heap.size, 0, none⟩ j) = ⟨w.heap.size, j, none⟩ := by unfold Addr.add; by_cases h0 : j = 0 <;> simp [h0]
  have h2 : (w.alloc (.cells cs e)).heap[w.heap.size]? = some (.cells cs e) := (MapKept.heap_alloc w _).1
  rw [h1]
  unfold World.cell?
  rw [h2]
  subst hx
  simpa using hj
end Go.Proofs.Ytbkagjngckfonaa
