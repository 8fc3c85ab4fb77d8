/- The program's contracts: texts joined into one: IpP Brk2 Brk3 RefMsg Nil2 ArgsIp0 ArgsMsg. -/
import Derived.Test.YtnajpmepcffnaaaGreatDoorXlb
import Derived.Test.YtnajpmepcffnaaaGreatDoorXla
import Derived.Test.YtnajpmepcffnaaaGreatDoorXvc
import Derived.Test.YtnajpmepcffnaaaGreatDoorXvb

section
/- alive17. -/
namespace Go.Proofs.YtnajpmepcffnaaaGreatDoor
open Go.Ve
attribute [local irreducible] Sound
def F0 : List AV := [.int .i64 1, .int .i64 32, .int .u64 720575944674246656, .int .u64 0, .str [], .int .i64 0, .int .i64 0, .int .u64 0, .int .u64 0, .str [], .int .i64 0, .int .i64 0, .int .u64 0, .int .u64 0, .str [], .int .i64 0, .int .i64 0, .int .u64 0, .int .u64 0, .str [], .int .u64 0, .int .u64 500]
theorem f0_cells : rcc f0 = F0 := by kernel_rfl
theorem fs0_all {p : Sc → Prop} (h1 : p ⟨8, 0, 4⟩) (h2 : p ⟨1, 0, 2⟩) : ∀ s ∈ fs0, p s := fun s hs => by
 rcases List.mem_cons.1 hs with rfl | hs
 ·exact h1
 ·rw [List.mem_singleton.1 hs]; exact h2
def T0 : List AV := [.int .i64 256, .int .i64 0, .sl (scl fs0)]
theorem tellA : DCall P 27 [.sl [T0]] [] (.tup [.sl (bcl a0B), .int .i64 0]) [] :=
 templates_one 256 fs0 t0_right (by decide) (fs0_all ⟨by decide, by decide⟩ ⟨by decide, by decide⟩)
theorem tellD : DCall P 28 [.agg T0, .sl [F0]] [] (.tup [.sl (bcl d0B), .int .i64 0]) [] := by
 have := data_one 256 fs0 f0 t0_right (by decide) (by decide) (by decide)
  (fs0_all (by rw [show (ofR f0 ⟨8, 0, 4⟩).length = 4 from by kernel_rfl]; decide) (by rw [show (ofR f0 ⟨1, 0, 2⟩).length = 2 from by kernel_rfl]; decide))
  (by rw [show (putsB fs0 f0).length = 6 from by kernel_rfl]; decide)
 rwa [f0_cells] at this
def Hv0 : AV := .agg [.int .u32 1, .int .u32 0, .int .u32 7, .int .i64 0, .int .i64 0]
theorem h0_ok : HhOk h0 := ⟨by decide, by decide, by decide⟩
theorem tellB : DCall P 13 [Hv0, .sl [[.sl (bcl a0B)], [.sl (bcl d0B)]]] [] (.tup [.sl (bcl b0B), .int .i64 0]) [] :=
 message_ok h0 h0_ok [a0B, d0B] (by show 2 ≤ _; omega) (by rw [show [a0B, d0B].flatten.length = 26 from by kernel_rfl]; omega)
theorem tellM : DCall P 13 [Hv0, .sl [[.sl (bcl w0B)], [.sl (bcl d0B)]]] [] (.tup [.sl (bcl m0B), .int .i64 0]) [] :=
 message_ok h0 h0_ok [w0B, d0B] (by show 2 ≤ _; omega) (by rw [show [w0B, d0B].flatten.length = 18 from by kernel_rfl]; omega)
theorem b0_len : b0B.length = 42 := by rw [b0_val]; rfl
theorem m0_len : m0B.length = 34 := by rw [m0_val]; rfl
theorem tel17R : DCall P 8 [.ptr 0 0, .sl (bcl b0B)] [.box 67 [.nilm]] (.tup [.ptr 1 0, .sl [F0], Hv0, .int .i64 0]) [.box 67 [.nilm], .box 67 [.own 2], .map pk2 (ces c1S.es) 1] := by
 have h := (ipRead_ok newS CI.new b0B (by rw [b0_len]; omega)).2
 rw [clone_new, b0_val, read_b0] at h
 have h := h rfl
 rw [b0_val]
 have e : goodV (cH newS).length (⟨c1S, 1, 0, 7, 0, 0, [f0]⟩ : Rd Cs) = .tup [.ptr 1 0, .sl [F0], Hv0, .int .i64 0] := by
  unfold goodV
  rw [show rcl (⟨c1S, 1, 0, 7, 0, 0, [f0]⟩ : Rd Cs).out = [rcc f0] from rfl, f0_cells]; rfl
 dsimp only at h
 rw [e] at h
 exact h
theorem c1_ci : CI c1S := by
 have h := ci_read (c := newS) CI.new (b := b0B) (by rw [b0_len]; omega)
 rwa [b0_val, read_b0] at h
theorem c2_ci : CI ⟨false, [], 1⟩ := by
 have h := ci_read (c := c1S) c1_ci (b := m0B) (by rw [m0_len]; omega)
 rwa [m0_val, read_m0] at h
theorem tel17X : DCall P 8 [.ptr 0 0, .sl (bcl m0B)] [.box 67 [.own 1], .map pk2 (ces c1S.es) 1] (.tup [.ptr 2 0, .sl [], .agg [.int .u32 1, .int .u32 0, .int .u32 7, .int .i64 1, .int .i64 0], .int .i64 0]) [.box 67 [.own 1], .map pk2 (ces c1S.es) 1, .box 67 [.own 3], .map pk2 [] 1] := by
 have h := (ipRead_ok c1S c1_ci m0B (by rw [m0_len]; omega)).2
 rw [clone_c1, m0_val, read_m0] at h
 rw [m0_val]
 exact h rfl
theorem tellF : DCall P 18 [.ptr 0 0, .int .u32 7, .int .i64 256] [.box 67 [.own 1], .map pk2 (ces c1S.es) 1] (.tup [.agg T0, .bool true]) [.box 67 [.own 1], .map pk2 (ces c1S.es) 1] := find_ok c1S c1_ci 7 256
theorem tellS : PCall P 19 [.agg T0, .agg T0] (.bool true) := same_refl t0 (by decide)
theorem tellL : DCall P 15 [.ptr 0 0] [.box 67 [.own 1], .map pk2 [] 1] (.sl []) [.box 67 [.own 1], .map pk2 [] 1] := by
 have h := list_ok ⟨false, [], 1⟩ c2_ci
 rw [show listE (⟨false, [], 1⟩ : Cs).es = [] from list_nil] at h
 exact h
theorem tellW : DCall P 29 [.bool false, .sl [[.int .i64 2]]] [] (.tup [.sl (bcl w0B), .int .i64 0]) [] := withdraw_one
set_option maxHeartbeats 4000000 in
theorem alive_17 : PCall P 12 [] (.bool true) := by
 have qA := tellA
 have qD := tellD
 have qB := tellB
 have qM := tellM
 have qR := tel17R
 have qX := tel17X
 have qF := tellF
 have qS := tellS
 have qL := tellL
 have qW := tellW
 have qN := read_nilp b0B
 have qT := templates_nil
 have qC := cnew_ok
 have hbl : (bcl b0B).length = 42 := by rw [bcl_len, b0_len]
 have hbl2 : ((bcl b0B).length : Int) = 42 := by rw [hbl]; rfl
 generalize a0B = a at *
 generalize d0B = dd at *
 generalize b0B = b at *
 generalize w0B = w at *
 generalize m0B = m at *
 generalize ces c1S.es = es at *
 unfold T0 Hv0 F0 badV hv0 at *
 refine PCall.of_sound tok mixed fn12 (Nat.le_of_ble_eq_true rfl) ?_
 refine Sound.seq tok mixed ?_
 (conv => whnf); repeat' ((with_reducible refine Box.mk ?_) <;> conv => whnf)
 refine Sound.seq tok mixed ?_
 (conv => whnf); repeat' ((with_reducible refine Box.mk ?_) <;> conv => whnf)
 refine Sound.weak ((weak_const 0 rfl (l := [(1, .ptr 1 0)]) rfl ⟨rfl, trivial⟩).trans (weak_ren_to (l := [(1, .ptr 0 0)]) (H' := [.box 58 [.int .i64 256, .int .i64 0, .sl (scl fs0)]]) [(1, true)] rfl rfl rfl ⟨rfl, trivial⟩)) ?_
 refine Sound.awp tok mixed ?_
 (conv => whnf); repeat' ((with_reducible refine Box.mk ?_) <;> conv => whnf)
 refine ACall.freeze 2 rfl rfl ?_
 refine aW [] qA rfl rfl rfl ?_
 (conv => whnf); repeat' ((with_reducible refine Box.mk ?_) <;> conv => whnf)
 refine ACall.freeze 3 rfl rfl ?_
 refine aW [] qD rfl rfl rfl ?_
 (conv => whnf); repeat' ((with_reducible refine Box.mk ?_) <;> conv => whnf)
 refine ACall.freeze 4 rfl rfl ?_
 refine aW [] qB rfl rfl rfl ?_
 (conv => whnf); repeat' ((with_reducible refine Box.mk ?_) <;> conv => whnf)
 refine aW [] qC rfl rfl rfl ?_
 (conv => whnf); repeat' ((with_reducible refine Box.mk ?_) <;> conv => whnf)
 refine aW [5] qR rfl rfl rfl ?_
 (conv => whnf); (repeat' ((with_reducible first | refine Box.mk ?_ | refine And.intro (fun _ => ?_) (fun _ => ?_) | fail) <;> conv => whnf))
 all_goals try contradiction
 all_goals try exact absurd hbl2 (by assumption)
 all_goals try exact absurd rfl (by assumption)
 refine aW [6, 7] qF rfl rfl rfl ?_
 (conv => whnf); repeat' ((with_reducible refine Box.mk ?_) <;> conv => whnf)
 refine ACall.freeze 10 rfl rfl ?_
 refine aW [] qW rfl rfl rfl ?_
 (conv => whnf); repeat' ((with_reducible refine Box.mk ?_) <;> conv => whnf)
 refine ACall.freeze 11 rfl rfl ?_
 refine aW [] qM rfl rfl rfl ?_
 (conv => whnf); repeat' ((with_reducible refine Box.mk ?_) <;> conv => whnf)
 refine aW [6, 7] qX rfl rfl rfl ?_
 (conv => whnf); repeat' ((with_reducible refine Box.mk ?_) <;> conv => whnf)
 refine aW [] qN rfl rfl rfl ?_
 (conv => whnf); repeat' ((with_reducible refine Box.mk ?_) <;> conv => whnf)
 refine aW [] qT rfl rfl rfl ?_
 (conv => whnf); repeat' ((with_reducible refine Box.mk ?_) <;> conv => whnf)
 refine ⟨[], by kernel_rfl, ?_⟩
 (conv => whnf); repeat' ((with_reducible refine Box.mk ?_) <;> conv => whnf)
 refine ⟨Int.le_refl _, _, rfl, rfl, ?_⟩
 (conv => whnf); (repeat' ((first | (with_reducible first | refine Box.mk ?_ | refine And.intro (fun _ => ?_) (fun _ => ?_) | fail) | ((with_reducible show Exists _); refine ⟨_, ACall.of_pure (by assumption) (by rfl) ⟨rfl, rfl⟩, ?_⟩) | fail) <;> conv => whnf))
 all_goals try (rename_i h; first | exact h.elim | exact absurd rfl h | exact absurd (by simp) h)
 refine aDr [12, 13] qL rfl rfl rfl rfl ?_
 (conv => whnf); (repeat' ((with_reducible first | refine Box.mk ?_ | refine And.intro (fun _ => ?_) (fun _ => ?_) | fail) <;> conv => whnf))
 all_goals try (rename_i h; first | exact h.elim | exact absurd rfl h | exact absurd (by simp) h)
 all_goals try rfl
end Go.Proofs.YtnajpmepcffnaaaGreatDoor
end

section
/- Code, walked in parts: loops, blocks and tests whose own code is walked in parts. -/
namespace Go.Ve
open Go

variable {P : Program} {n : Nat}
theorem Sound.loop [Dr] {rd : Option Nat} {N0 : Nat} {c : Code} {Q : AQ} {s : AS} {ι : Type} (I : ι → Prop) (shape : ι → AS) (μ : ι → Nat) (i0 : ι) (hI0 : I i0) (hw0 : Weak N0 s (shape i0))
  (hr : ∀ i, I i → Sound P n rd N0 c (afterQ (fun s'' => ∃ j, I j ∧ μ j < μ i ∧ Weak N0 s'' (shape j)) Q) (shape i)) : Sound P n rd N0 (.loop c) Q s := by
 intro B rc D M0 H0 σ0 w0 σ w a hN0 hE hrd hBw hD hs ha
 have weak : ∀ {s1 s2 : AS} {σ1 : List Value} {w1 : World} {a1 : Act} {D1 : List Deferred}, Weak N0 s1 s2 → St M0 s1.H σ1 w1 → Ext H0 σ0 w0 s1.H σ1 w1 → MarksOk B s1.H σ1 w1 D1 → ActOk D1 (Kof M0 s1.H σ1 w1) σ1 n s1.env a1 →
   ∃ σ2, St M0 s2.H σ2 w1 ∧ Ext H0 σ0 w0 s2.H σ2 w1 ∧ MarksOk B s2.H σ2 w1 D1 ∧ ActOk D1 (Kof M0 s2.H σ2 w1) σ2 n s2.env a1 := by
  intro s1 s2 σ1 w1 a1 D1 hw g2 g3 gD g4
  obtain ⟨σ2, m1, m2, m3, m4⟩ := hw M0 σ1 w1 n a1 D1 (by rw [← hN0]; exact g3.pre.length_le) g2 g4
  refine ⟨σ2, m3, ⟨g3.os, g3.tape, g3.output, g3.size, ?_, g3.keep, fun b hb hm => g3.mutb b hb (m2 b hm)⟩, gD.weak m2, m4⟩
  obtain ⟨t, ht⟩ := g3.pre
  have : σ1.take N0 = σ0 := by rw [← ht, ← hN0]; simp
  rw [this] at m1; exact m1
 obtain ⟨σi, i1, i2, iD, i3⟩ := weak hw0 hs hE hD ha
 refine wpIn_loop_ix (ι := ι × List Value × List Deferred) (fun p a' w' => I p.1 ∧ St M0 (shape p.1).H p.2.1 w' ∧ Ext H0 σ0 w0 (shape p.1).H p.2.1 w' ∧ MarksOk B (shape p.1).H p.2.1 w' p.2.2 ∧ (rd ≠ none → p.2.2 = D) ∧ ActOk p.2.2 (Kof M0 (shape p.1).H p.2.1 w') p.2.1 n (shape p.1).env a') (fun p => μ p.1) (i0 := (i0, σi, D)) ⟨hI0, i1, i2, iD, fun _ => rfl, i3⟩ fun p a' w' hI => ?_
 obtain ⟨i, σ', D'⟩ := p
 obtain ⟨g1, g2, g3, gD, gd, g4⟩ := hI
 refine wpIn_mono (hr i g1 B rc D' M0 H0 σ0 w0 σ' w' a' hN0 g3 hrd hBw gD g2 g4) fun e a'' w'' hq => ?_
 obtain ⟨x1, s'', σ'', D'', rfl, k1, k2, k3, kD, kd, k4⟩ := hq
 cases x1 with
 | normal =>
  obtain ⟨j, n2, n3, n1⟩ := k1
  obtain ⟨σ3, o1, o2, oD, o3⟩ := weak n1 k2 k3 kD k4
  exact ⟨(j, σ3, D''), ⟨n2, o1, o2, oD, fun h => (kd h).trans (gd h), o3⟩, n3⟩
 | exit id => exact ⟨.exit id, s'', σ'', D'', rfl, k1, k2, k3, kD, fun h => (kd h).trans (gd h), k4⟩
 | ret => exact ⟨.ret, s'', σ'', D'', rfl, k1, k2, k3, kD, fun h => (kd h).trans (gd h), k4⟩
theorem Sound.mono [Dr] {rd : Option Nat} {N0 : Nat} {c : Code} {Q Q' : AQ} {s : AS} (h : Sound P n rd N0 c Q s) (hq : ∀ x s', Q x s' → Q' x s') : Sound P n rd N0 c Q' s := by
 intro B rc D M0 H0 σ0 w0 σ w a hN0 hE hrd hBw hD hs ha
 refine wpIn_mono (h B rc D M0 H0 σ0 w0 σ w a hN0 hE hrd hBw hD hs ha) fun e a' w' hq' => ?_
 obtain ⟨x1, s', σ', D', rfl, k1, k⟩ := hq'
 exact ⟨x1, s', σ', D', rfl, hq _ _ k1, k⟩
theorem Sound.block [Dr] {rd : Option Nat} {N0 : Nat} {id : Nat} {c : Code} {Q : AQ} {s : AS} (h : Sound P n rd N0 c (blockQ id Q) s) : Sound P n rd N0 (.block id c) Q s := by
 intro B rc D M0 H0 σ0 w0 σ w a hN0 hE hrd hBw hD hs ha
 refine wpIn_block (wpIn_mono (h B rc D M0 H0 σ0 w0 σ w a hN0 hE hrd hBw hD hs ha) fun e a' w' hq => ?_)
 obtain ⟨x1, s', σ', D', rfl, k1, k⟩ := hq
 cases x1 with
 | normal => exact ⟨.normal, s', σ', D', rfl, k1, k⟩
 | ret => exact ⟨.ret, s', σ', D', rfl, k1, k⟩
 | exit i =>
  simp only [blockQ] at k1
  simp only [toE, Exit.inBlock]
  by_cases hid : i = id
  ·subst hid
   rw [if_pos rfl]
   have : Nat.beq i i = true := Nat.beq_refl i
   rw [this] at k1
   exact ⟨.normal, s', σ', D', rfl, k1, k⟩
  ·rw [if_neg hid]
   rw [beq_ne hid] at k1
   exact ⟨.exit i, s', σ', D', rfl, k1, k⟩
end Go.Ve
end

section
/- A contract over the caller's objects, walked in parts. -/
namespace Go.Ve
open Go

variable {P : Program} {T : TT} {n : Nat}
theorem ACall.of_sound [Dr] (hT : TOk P T) (hm : P.follows .mixedOrders = true) {f : FuncId} {c : Code} {rs : List ResultVar} (hf : FnIs P f n c rs) {args : List AV} (hn : args.length ≤ n) {H : Hp} {K : KV}
  (h : Sound P n none H.length c (FPost T rs fun vs H' => K (mkRes vs) H') ⟨env0 args, H⟩) : ACall P f args H K := by
 unfold ACall
 refine ⟨hf.callable, fun M0 σ w vs hs hv => Calls.mono (calls_of_sound hT hm hf hn h hs hv) fun e w' he => ?_⟩
 obtain ⟨xs, us, H', σ', rfl, k1, k2, k3, k4⟩ := he
 exact ⟨_, _, H', σ', rfl, k3, k4, mk_run k2, k1⟩
theorem DCall.of_sound [Dr] (hT : TOk P T) (hm : P.follows .mixedOrders = true) {f : FuncId} {c : Code} {rs : List ResultVar} (hf : FnIs P f n c rs) {args : List AV} (hn : args.length ≤ n) {H H0 : Hp} {r0 : AV}
  (h : Sound P n none H.length c (FPost T rs fun vs H' => Weak H.length ⟨envL [(0, mkRes vs)], H'⟩ ⟨envL [(0, r0)], H0⟩) ⟨env0 args, H⟩) : DCall P f args H r0 H0 :=
 (ACall.of_sound (K := fun r H' => Weak H.length ⟨envL [(0, r)], H'⟩ ⟨envL [(0, r0)], H0⟩) hT hm hf hn h).post fun _ _ h => ⟨_, _, h, rfl, rfl⟩
end Go.Ve
end

section
/- The document's messages: Message; law17: IpfixMessages. -/
namespace Go.Proofs.YtnajpmepcffnaaaGreatDoor
open Go.Ve
attribute [local irreducible] Sound

noncomputable def rmC : Code := (fun c : Code => match c with | .seq _ (.seq _ (.seq _ y)) => y | c => c) (Tryz.f14.body.getD .skip)
set_option maxHeartbeats 4000000 in
theorem r17Message_tail (h : Hh) (hh : HhOk h) (b : Bs) (hb : 16 + b.length ≤ 65535) :
  Sound P Tryz.f14.ntmps none 0 rmC (FPost ty Tryz.f14.results.toList fun vs H' => Weak 0 ⟨envL [(0, mkRes vs)], H'⟩ ⟨envL [(0, .sl (bcl (msgB h b)))], []⟩) ⟨envL [(2, .ptr 0 0), (5, .sl (bcl b))], [hBox h]⟩ := by
 obtain ⟨h1, h2, h3⟩ := hh
 have hb' : ∀ m : Nat, m < 4294967296 → m < H64 := fun m h => Nat.lt_of_lt_of_le h (Nat.le_of_ble_eq_true rfl)
 have a0 := xNum_own 10 (hb' _ (by omega)) 2
 have a1 := xNum_own (16 + b.length) (hb' _ (by omega)) 2
 have a2 := xNum_own h.time (hb' _ h1) 4
 have a3 := xNum_own h.seq (hb' _ h2) 4
 have a4 := xNum_own h.dom (hb' _ h3) 4
 rw [show szN 2 = 2 from rfl] at a0 a1
 rw [show szN 4 = 4 from rfl] at a2 a3 a4
 have l0 := bcl_len (numB 10 2)
 have l1 := bcl_len (numB (16 + b.length) 2)
 have l2 := bcl_len (numB h.time 4)
 have l3 := bcl_len (numB h.seq 4)
 have l4 := bcl_len (numB h.dom 4)
 have lb := bcl_len b
 rw [numB_len] at l0 l1 l2 l3 l4
 have c1 := bcl_cells (numB (16 + b.length) 2)
 have c2 := bcl_cells (numB h.time 4)
 have c3 := bcl_cells (numB h.seq 4)
 have c4 := bcl_cells (numB h.dom 4)
 have cb := bcl_cells b
 have w0 : IntKind.u64.wrap (IntKind.i64.wrap (((bcl b).length : Int) + 16)) = ((16 + b.length : Nat) : Int) := by rw [lb, wrap_i64 (by omega) (by omega), wrap_u64 (by omega) (by omega)]; omega
 have w2 : IntKind.u64.wrap (h.time : Int) = (h.time : Int) := wrap_u64 (by omega) (by omega)
 have w3 : IntKind.u64.wrap (h.seq : Int) = (h.seq : Int) := wrap_u64 (by omega) (by omega)
 have w4 : IntKind.u64.wrap (h.dom : Int) = (h.dom : Int) := wrap_u64 (by omega) (by omega)
 have hm : bcl (msgB h b) = bcl (numB 10 2) ++ bcl (numB (16 + b.length) 2) ++ bcl (numB h.time 4) ++ bcl (numB h.seq 4) ++ bcl (numB h.dom 4) ++ bcl b := by
  unfold msgB
  simp only [bcl_app, List.append_assoc]
 rw [hm]
 generalize bcl (numB 10 2) = x0 at *
 generalize bcl (numB (16 + b.length) 2) = x1 at *
 generalize bcl (numB h.time 4) = x2 at *
 generalize bcl (numB h.seq 4) = x3 at *
 generalize bcl (numB h.dom 4) = x4 at *
 generalize bcl b = x5 at *
 refine Sound.seq tok mixed ?_
 (conv => whnf); (repeat' ((with_reducible first | refine Box.mk ?_ | refine And.intro (fun _ => ?_) (fun _ => ?_) | refine (forceH_eq _ _).mpr ?_ | fail) <;> conv => whnf))
 refine aW [] a0 rfl rfl rfl ?_
 (conv => whnf); repeat' ((with_reducible refine Box.mk ?_) <;> conv => whnf)
 rw [w0]
 refine aW [] a1 rfl rfl rfl ?_
 (conv => whnf); repeat' ((with_reducible refine Box.mk ?_) <;> conv => whnf)
 refine ⟨c1, by rw [l0, l1]; exact Nat.le_of_ble_eq_true rfl, by rw [l0, l1]; exact Nat.le_of_ble_eq_true rfl, ?_⟩
 (conv => whnf); repeat' ((with_reducible refine Box.mk ?_) <;> conv => whnf)
 refine Sound.seq tok mixed ?_
 (conv => whnf); (repeat' ((with_reducible first | refine Box.mk ?_ | refine And.intro (fun _ => ?_) (fun _ => ?_) | refine (forceH_eq _ _).mpr ?_ | fail) <;> conv => whnf))
 refine ⟨[(2004, []), (2009, []), (3007, [4, 5]), (3008, [4, 5])], by kernel_rfl, ?_⟩
 (conv => whnf); repeat' ((with_reducible refine Box.mk ?_) <;> conv => whnf)
 rw [w2]
 refine aDw [] a2 rfl rfl rfl ?_
 (conv => whnf); repeat' ((with_reducible refine Box.mk ?_) <;> conv => whnf)
 refine ⟨c2, by rw [List.length_append, l0, l1, l2]; exact Nat.le_of_ble_eq_true rfl, by rw [List.length_append, l0, l1, l2]; exact Nat.le_of_ble_eq_true rfl, ?_⟩
 (conv => whnf); repeat' ((with_reducible refine Box.mk ?_) <;> conv => whnf)
 (refine And.intro ?_ ?_); (focus ((conv => whnf); (repeat' first | exact trivial | ((refine And.intro ?_ ?_); (focus ((conv => whnf); (first | exact ⟨rfl, rfl⟩ | exact ⟨by decide, by decide, rfl, rfl⟩ | exact ⟨by omega, by omega, rfl, rfl⟩ | exact ⟨by (simp only [List.length_drop, List.length_take]; omega), rfl, rfl⟩ | exact ⟨_, rfl, rfl, rfl⟩ | exact ⟨by omega, _, by assumption, rfl, rfl, rfl⟩ | ((refine ACall.of_pure (by assumption) (by rfl) ?_); (refine And.intro ?_ ?_ <;> rfl))))); (conv => whnf)))))
 (conv => whnf); repeat' ((with_reducible refine Box.mk ?_) <;> conv => whnf)
 (refine And.intro ?_ ?_); (focus ((conv => whnf); (repeat' first | exact trivial | ((refine And.intro ?_ ?_); (focus ((conv => whnf); (first | exact ⟨rfl, rfl⟩ | exact ⟨by decide, by decide, rfl, rfl⟩ | exact ⟨by omega, by omega, rfl, rfl⟩ | exact ⟨by (simp only [List.length_drop, List.length_take]; omega), rfl, rfl⟩ | exact ⟨_, rfl, rfl, rfl⟩ | exact ⟨by omega, _, by assumption, rfl, rfl, rfl⟩ | ((refine ACall.of_pure (by assumption) (by rfl) ?_); (refine And.intro ?_ ?_ <;> rfl))))); (conv => whnf)))))
 (conv => whnf); repeat' ((with_reducible refine Box.mk ?_) <;> conv => whnf)
 rw [w3]
 refine aDw [] a3 rfl rfl rfl ?_
 (conv => whnf); repeat' ((with_reducible refine Box.mk ?_) <;> conv => whnf)
 refine ⟨c3, by simp only [List.length_append, l0, l1, l2, l3]; exact Nat.le_of_ble_eq_true rfl, by simp only [List.length_append, l0, l1, l2, l3]; exact Nat.le_of_ble_eq_true rfl, ?_⟩
 (conv => whnf); repeat' ((with_reducible refine Box.mk ?_) <;> conv => whnf)
 refine Sound.awp tok mixed ?_
 (conv => whnf); repeat' ((with_reducible refine Box.mk ?_) <;> conv => whnf)
 rw [w4]
 refine aW [] a4 rfl rfl rfl ?_
 (conv => whnf); repeat' ((with_reducible refine Box.mk ?_) <;> conv => whnf)
 refine ⟨c4, by simp only [List.length_append, l0, l1, l2, l3, l4]; exact Nat.le_of_ble_eq_true rfl, by simp only [List.length_append, l0, l1, l2, l3, l4]; exact Nat.le_of_ble_eq_true rfl, ?_⟩
 (conv => whnf); repeat' ((with_reducible refine Box.mk ?_) <;> conv => whnf)
 refine ⟨cb, by simp only [List.length_append, l0, l1, l2, l3, l4, lb]; show (2 + 2 + 4 + 4 + 4 + _) * 1 ≤ _; omega, by simp only [List.length_append, l0, l1, l2, l3, l4, lb]; omega, ?_⟩
 (conv => whnf); repeat' ((with_reducible refine Box.mk ?_) <;> conv => whnf)
 exact weak_cr 10 [] rfl rfl rfl rfl rfl
theorem r17Message_ok (h : Hh) (hh : HhOk h) (l : List Bs) (hl : l.length ≤ 1000000000) (hn : 16 + l.flatten.length ≤ 65535) : DCall P 14 [hhv h, .sl (bll l)] [] (.sl (bcl (msgB h l.flatten))) [] := by
 have hbl := bll_len l
 have ht := r17Message_tail h hh l.flatten hn
 refine DCall.of_sound tok mixed fn14 (Nat.le_of_ble_eq_true rfl) ?_
 refine Sound.seq tok mixed ?_
 (conv => whnf); repeat' ((with_reducible refine Box.mk ?_) <;> conv => whnf)
 refine Sound.seq tok mixed ?_
 (conv => whnf); repeat' ((with_reducible refine Box.mk ?_) <;> conv => whnf)
 refine Sound.seq tok mixed ?_
 (conv => whnf); repeat' ((with_reducible refine Box.mk ?_) <;> conv => whnf)
 refine aloop (fun i : Nat => i ≤ l.length) (fun i => ⟨envL [(1, .sl (bll l)), (2, .ptr 0 0), (5, .own 1), (6, .int .i64 (i : Int))], [hBox h] ++ [Ob.row 5 1 (bcl (l.take i).flatten)]⟩) (fun i => l.length - i) 0 (Nat.zero_le _) ?_ ?_
 ·exact weak_nl [(0, true)] (l1 := [(1, .sl (bll l)), (2, .ptr 0 0), (5, .nils), (6, .int .i64 0)]) (H1 := [hBox h]) 5 1 (by decide) rfl rfl rfl ⟨rfl, rfl, rfl, rfl, trivial⟩ ⟨.inl rfl, .inl rfl, .inr ⟨rfl, rfl⟩, .inl rfl, trivial⟩ ⟨.inl rfl, trivial⟩
 intro i hi
 by_cases hlt : i < l.length
 ·have hx := List.getElem?_eq_getElem hlt
  have hft := flat_take hx
  generalize l[i] = b at *
  have hbb := bcl_len b
  have hg := bll_get hx
  have hfl : (l.take (i + 1)).flatten.length = (l.take i).flatten.length + b.length := by rw [hft, List.length_append]
  have hle := flat_le l (i + 1)
  have hrl := bcl_len (l.take i).flatten
  (conv => whnf); (repeat' ((with_reducible first | refine Box.mk ?_ | refine And.intro (fun _ => ?_) (fun _ => ?_) | fail) <;> conv => whnf))
  rotate_left
  ·exfalso; rename_i h; have h : ¬ (i : Int) < ((bll l).length : Int) := h; omega
  refine ⟨by omega, _, hg, rfl, ?_⟩
  (conv => whnf); repeat' ((with_reducible refine Box.mk ?_) <;> conv => whnf)
  refine ⟨bcl_cells _, by rw [hrl, hbb]; show (_ + _) * 1 ≤ _; omega, by rw [hrl, hbb]; omega, ?_⟩
  (conv => whnf); repeat' ((with_reducible refine Box.mk ?_) <;> conv => whnf)
  refine ⟨i + 1, hlt, by omega, weak_ren_to [(0, true), (2, true)] rfl rfl ?_ ⟨rfl, rfl, rfl, wrap_nat (m := 1) (by omega), trivial⟩⟩
  rw [hft, bcl_app]; rfl
 ·have : i = l.length := by omega
  subst this
  rw [List.take_length]
  (conv => whnf); (repeat' ((with_reducible first | refine Box.mk ?_ | refine And.intro (fun _ => ?_) (fun _ => ?_) | fail) <;> conv => whnf))
  ·exfalso; rename_i h; have h : ((l.length : Nat) : Int) < ((bll l).length : Int) := h; omega
  exact Sound.weak ((weak_const 1 rfl (l := [(2, .ptr 0 0), (5, .sl (bcl l.flatten))]) rfl ⟨rfl, rfl, trivial⟩).trans (weak_ren_to (l := [(2, .ptr 0 0), (5, .sl (bcl l.flatten))]) [(0, true)] rfl rfl rfl ⟨rfl, rfl, trivial⟩)) ht
set_option maxHeartbeats 4000000 in
theorem IpfixMessages_run (h : Hh) (hh : HhOk h) (l : List Bs) (hl : l.length ≤ 1048576) (hs : ∀ x ∈ l, x.length ≤ 1048576) : PCall P 4 [hhv h, .sl (bll l)] (.bool true) := by
 have hbl := bll_len l
 have qa := alive_17
 by_cases hn : 16 + l.flatten.length ≤ 65535
 ·have q1 := message_ok h hh l (by omega) hn
  have q2 := r17Message_ok h hh l (by omega) hn
  have hml := msg_len h l.flatten
  generalize msgB h l.flatten = m at *
  refine PCall.of_awp tok mixed fn4 (Nat.le_of_ble_eq_true rfl) ?_
  (conv => whnf); repeat' ((with_reducible refine Box.mk ?_) <;> conv => whnf)
  refine aW [] q1 rfl rfl rfl ?_
  (conv => whnf); repeat' ((with_reducible refine Box.mk ?_) <;> conv => whnf)
  refine aloop (fun i : Nat => i ≤ l.length) (fun i => ⟨envL [(1, .sl (bll l)), (2, .ptr 0 0), (5, .sl (bcl m)), (6, .int .i64 0), (7, .int .i64 ((16 + (l.take i).flatten.length : Nat) : Int)), (8, .int .i64 (i : Int))], [hBox h]⟩) (fun i => l.length - i) 0 (Nat.zero_le _) (weak_ren_to [(0, true)] rfl rfl rfl ⟨rfl, rfl, rfl, rfl, rfl, rfl, trivial⟩) ?_
  intro i hi
  by_cases hlt : i < l.length
  ·have hx := List.getElem?_eq_getElem hlt
   have hft := flat_take hx
   generalize l[i] = b at *
   have hbb := bcl_len b
   have hg := bll_get hx
   have hfl : (l.take (i + 1)).flatten.length = (l.take i).flatten.length + b.length := by rw [hft, List.length_append]
   have hle := flat_le l (i + 1)
   have w1 : IntKind.i64.wrap (65535 - ((16 + (l.take i).flatten.length : Nat) : Int)) = 65535 - ((16 + (l.take i).flatten.length : Nat) : Int) := wrap_i64 (by omega) (by omega)
   (conv => whnf); (repeat' ((with_reducible first | refine Box.mk ?_ | refine And.intro (fun _ => ?_) (fun _ => ?_) | fail) <;> conv => whnf))
   all_goals try (exfalso; omega)
   refine ⟨by omega, _, hg, rfl, ?_⟩
   (conv => whnf); (repeat' ((first | (with_reducible first | refine Box.mk ?_ | refine And.intro (fun _ => ?_) (fun _ => ?_) | fail) | ((with_reducible show ACall _ _ _ _ _); refine ACall.of_pure (by assumption) (by rfl) ?_) | fail) <;> conv => whnf))
   all_goals try (exfalso; omega)
   refine ⟨by omega, _, hg, rfl, ?_⟩
   (conv => whnf); repeat' ((with_reducible refine Box.mk ?_) <;> conv => whnf)
   refine ⟨i + 1, hlt, by omega, weak_ren_to [(0, true)] rfl rfl rfl ⟨rfl, rfl, rfl, rfl, ?_, wrap_nat (m := 1) (by omega), trivial⟩⟩
   show AV.int .i64 (IntKind.i64.wrap _) = _
   rw [wrap_i64 (by omega) (by omega)]
   exact congrArg (AV.int .i64) (by omega)
  ·have : i = l.length := by omega
   subst this
   (conv => whnf); (repeat' ((with_reducible first | refine Box.mk ?_ | refine And.intro (fun _ => ?_) (fun _ => ?_) | fail) <;> conv => whnf))
   all_goals try (exfalso; omega)
   refine ⟨[], by kernel_rfl, ?_⟩
   (conv => whnf); (repeat' ((first | (with_reducible first | refine Box.mk ?_ | refine And.intro (fun _ => ?_) (fun _ => ?_) | fail) | ((with_reducible show Exists _); refine ⟨_, ACall.of_pure (by assumption) (by rfl) ⟨rfl, rfl⟩, ?_⟩) | fail) <;> conv => whnf))
   all_goals try (exfalso; omega)
   refine ⟨_, rfl, ?_⟩
   (conv => whnf); repeat' ((with_reducible refine Box.mk ?_) <;> conv => whnf)
   refine aDr [] q2 rfl rfl rfl rfl ?_
   (conv => whnf); repeat' ((with_reducible refine Box.mk ?_) <;> conv => whnf)
   refine ⟨_, rfl, ?_⟩
   (conv => whnf); (repeat' ((with_reducible first | refine Box.mk ?_ | refine And.intro (fun _ => ?_) (fun _ => ?_) | fail) <;> conv => whnf))
   all_goals first
    | rfl
    | (exfalso; rename_i hx; exact hx rfl)
 ·have q1 := message_no h l (by omega) (by omega)
  refine PCall.of_awp tok mixed fn4 (Nat.le_of_ble_eq_true rfl) ?_
  (conv => whnf); repeat' ((with_reducible refine Box.mk ?_) <;> conv => whnf)
  refine aW [] q1 rfl rfl rfl ?_
  (conv => whnf); repeat' ((with_reducible refine Box.mk ?_) <;> conv => whnf)
  refine aloop (fun i : Nat => i ≤ l.length ∧ 16 + (l.take i).flatten.length ≤ 65535) (fun i => ⟨envL [(1, .sl (bll l)), (2, .ptr 0 0), (5, .nils), (6, .int .i64 2), (7, .int .i64 ((16 + (l.take i).flatten.length : Nat) : Int)), (8, .int .i64 (i : Int))], [hBox h]⟩) (fun i => l.length - i) 0 ⟨Nat.zero_le _, by show 16 + 0 ≤ _; omega⟩ (weak_ren_to [(0, true)] rfl rfl rfl ⟨rfl, rfl, rfl, rfl, rfl, rfl, trivial⟩) ?_
  rintro i ⟨hi, hsum⟩
  by_cases hlt : i < l.length
  ·have hx := List.getElem?_eq_getElem hlt
   have hft := flat_take hx
   have hbl1 := hs _ (List.mem_of_getElem? hx)
   generalize l[i] = b at *
   have hbb := bcl_len b
   have hg := bll_get hx
   have hfl : (l.take (i + 1)).flatten.length = (l.take i).flatten.length + b.length := by rw [hft, List.length_append]
   have w1 : IntKind.i64.wrap (65535 - ((16 + (l.take i).flatten.length : Nat) : Int)) = 65535 - ((16 + (l.take i).flatten.length : Nat) : Int) := wrap_i64 (by omega) (by omega)
   (conv => whnf); (repeat' ((with_reducible first | refine Box.mk ?_ | refine And.intro (fun _ => ?_) (fun _ => ?_) | fail) <;> conv => whnf))
   all_goals try (exfalso; omega)
   refine ⟨by omega, _, hg, rfl, ?_⟩
   (conv => whnf); (repeat' ((first | (with_reducible first | refine Box.mk ?_ | refine And.intro (fun _ => ?_) (fun _ => ?_) | fail) | ((with_reducible show ACall _ _ _ _ _); refine ACall.of_pure (by assumption) (by rfl) ?_) | fail) <;> conv => whnf))
   all_goals try (exfalso; omega)
   ·rfl
   rename_i h2
   rw [w1] at h2
   refine ⟨by omega, _, hg, rfl, ?_⟩
   (conv => whnf); repeat' ((with_reducible refine Box.mk ?_) <;> conv => whnf)
   refine ⟨i + 1, ⟨hlt, by omega⟩, by omega, weak_ren_to [(0, true)] rfl rfl rfl ⟨rfl, rfl, rfl, rfl, ?_, wrap_nat (m := 1) (by omega), trivial⟩⟩
   show AV.int .i64 (IntKind.i64.wrap _) = _
   rw [wrap_i64 (by omega) (by omega)]
   exact congrArg (AV.int .i64) (by omega)
  ·exfalso
   have : i = l.length := by omega
   subst this
   rw [List.take_length] at hsum
   omega
end Go.Proofs.YtnajpmepcffnaaaGreatDoor
end

section
/- Arguments: nil lists, and nil lists within lists, as empty ones. -/
namespace Go.Ve

theorem nlN_cell {x : AV} (h : isCell x = true) : isCell (nlN x) = true := by
 cases x <;> first | exact h | rfl
def nl2 : AV → AV
 | .nils => .sl []
 | .sl es => .sl (es.map (List.map nlN))
 | x => x
theorem nl2_rv [Dr] {K : Addr → Value → Prop} {σ : List Value} {x : AV} {v : Value} (h : Rv K σ x v) : Rv K σ (nl2 x) v := by
 cases h with
 | nils => exact .sl0 _
 | sl0 => exact .sl0 _
 | sl _ es a cap sz val hcap hlen hsz hv hK =>
  have hl : (es.map (List.map nlN)).length = es.length := List.length_map _
  have := Rv.sl (K := K) σ (es.map (List.map nlN)) a cap sz val (by rw [hl]; exact hcap) (by rw [hl]; exact hlen) (fun c hc => by
   obtain ⟨d, hd, rfl⟩ := List.mem_map.1 hc
   obtain ⟨h1, h2⟩ := hsz d hd
   refine ⟨by rw [List.length_map]; exact h1, List.all_eq_true.2 fun y hy => ?_⟩
   obtain ⟨z, hz, rfl⟩ := List.mem_map.1 hy
   exact nlN_cell (List.all_eq_true.1 h2 z hz)) (fun i j c x hc hx => by
   rw [List.getElem?_map, Option.map_eq_some_iff] at hc
   obtain ⟨d, hd, rfl⟩ := hc
   rw [List.getElem?_map, Option.map_eq_some_iff] at hx
   obtain ⟨z, hz, rfl⟩ := hx
   exact nlN_rv (fun _ _ h => h) (hv i j d z hd hz)) (fun i j hi hj => hK i j (by rw [hl] at hi; exact hi) hj)
  rw [hl] at this
  exact this
 | int _ k n => exact .int _ _ _
 | bool _ b => exact .bool _ _
 | str _ s => exact .str _ _
 | undef _ v => exact .undef _ _
 | und => exact .und _
 | own _ id v h1 h2 => exact .own _ _ _ h1 h2
 | cptr _ cs a val h1 h2 h3 => exact .cptr _ _ _ _ h1 h2 h3
 | ptr _ id off b h => exact .ptr _ _ _ _ h
 | eptr _ id i sz off g n cap h => exact .eptr _ _ _ _ _ _ _ _ h
 | asl _ id off n b cap hc h => exact .asl _ _ _ _ _ _ hc h
 | vw _ id n cap a h => exact .vw _ _ _ _ _ h
 | nilp => exact .nilp _
 | agg _ cs vs h1 h2 h3 => exact .agg _ _ _ h1 h2 h3
 | tup _ cs vs h1 h2 => exact .tup _ _ _ h1 h2
 | fn _ f cs vs h1 h2 => exact .fn _ _ _ _ h1 h2
 | bfn _ f cs vs h1 h2 h3 => exact .bfn _ _ _ _ h1 h2 h3
 | nilf => exact .nilf _
 | nili => exact .nili _
 | nilm => exact .nilm _
 | ifc _ t x v h => exact .ifc _ _ _ _ h
def nl2L : List AV → List AV
 | [] => []
 | x :: xs => nl2 x :: nl2L xs
theorem nl2L_len : ∀ (l : List AV), (nl2L l).length = l.length
 | [] => rfl
 | x :: xs => by simp [nl2L, nl2L_len xs]
theorem nl2L_get : ∀ {l : List AV} {j : Nat} {y : AV}, (nl2L l)[j]? = some y → ∃ x, l[j]? = some x ∧ y = nl2 x
 | [], j, y, h => by simp [nl2L] at h
 | x :: xs, 0, y, h => by simp [nl2L] at h; exact ⟨x, rfl, h.symm⟩
 | x :: xs, j + 1, y, h => by simp [nl2L] at h; simpa using nl2L_get h
theorem PCall.nils2 [Dr] {P : Program} {f : FuncId} {args : List AV} {r : AV} (h : PCall P f (nl2L args) r) : PCall P f args r := by
 unfold PCall at *
 refine ⟨h.1, fun M0 w vs h1 h2 hv => h.2 M0 w vs h1 h2 ⟨by rw [nl2L_len]; exact hv.1, fun i y hy => ?_⟩⟩
 obtain ⟨x, hx, rfl⟩ := nl2L_get hy
 exact nl2_rv (hv.2 i x hx)
end Go.Ve
end

section
/- law17: arguments read as data: bytes, lists of bytes, a head. -/
namespace Go.Proofs.YtnajpmepcffnaaaGreatDoor
open Go.Ve

theorem u32_lit18 {n : Int} (h : (Lit.int .u32 n).wf = true) : ∃ m : Nat, n = m ∧ m < 4294967296 := by
 have h2 : (0 : Int) ≤ n ∧ n ≤ 4294967295 := by
  have := h
  simp [Lit.wf] at this
  rw [show IntKind.u32.min = 0 from rfl, show IntKind.u32.max = 4294967295 from rfl] at this
  exact this
 exact ⟨n.toNat, by omega, by omega⟩
theorem bytes_inv18 {B : Nat} : ∀ (es : List (List AV)), (∀ c ∈ es, Wf ty B 5 c) → ∃ l : Bs, es = bcl l
 | [], _ => ⟨[], rfl⟩
 | c :: r, h => by
  obtain ⟨l, hl⟩ := bytes_inv18 r fun c hc => h c (List.mem_cons_of_mem _ hc)
  obtain ⟨n, rfl, hw⟩ := (h c List.mem_cons_self).int_inv (k := .u8) rfl
  have h2 : (0 : Int) ≤ n ∧ n ≤ 255 := by
   have := hw
   simp [Lit.wf] at this
   rw [show IntKind.u8.min = 0 from rfl, show IntKind.u8.max = 255 from rfl] at this
   exact this
  refine ⟨UInt8.ofNat n.toNat :: l, ?_⟩
  have e : ((UInt8.ofNat n.toNat).toNat : Int) = n := by
   show (((n.toNat % 256 : Nat)) : Int) = n
   omega
  rw [hl]
  show _ = [AV.int .u8 ((UInt8.ofNat n.toNat).toNat : Int)] :: bcl l
  rw [e]
theorem bsc_inv18 {B : Nat} : ∀ (es : List (List AV)), (∀ c ∈ es, Wf ty B 33 c) → ∃ l : List Bs, es.map (List.map nlN) = bll l ∧ l.length = es.length ∧ ∀ x ∈ l, x.length ≤ B
 | [], _ => ⟨[], rfl, rfl, fun x hx => by cases hx⟩
 | c :: r, h => by
  obtain ⟨l, h1, h2, h3⟩ := bsc_inv18 r fun c hc => h c (List.mem_cons_of_mem _ hc)
  rcases (h c List.mem_cons_self).slice_inv rfl with rfl | ⟨es, rfl, hl, he⟩
  ·refine ⟨[] :: l, ?_, by rw [List.length_cons, List.length_cons, h2], fun x hx => ?_⟩
   ·rw [List.map_cons, h1]; rfl
   ·rcases List.mem_cons.1 hx with rfl | hx
    ·exact Nat.zero_le _
    ·exact h3 x hx
  ·obtain ⟨b, rfl⟩ := bytes_inv18 es he
   refine ⟨b :: l, ?_, by rw [List.length_cons, List.length_cons, h2], fun x hx => ?_⟩
   ·rw [List.map_cons, h1]; rfl
   ·rcases List.mem_cons.1 hx with rfl | hx
    ·rw [bcl_len] at hl; exact hl
    ·exact h3 x hx
theorem bsl_inv18 {B : Nat} {x : AV} (h : WfV ty B 22 x) : ∃ l : List Bs, nl2 x = .sl (bll l) ∧ l.length ≤ B ∧ ∀ y ∈ l, y.length ≤ B := by
 rcases h.slice_inv rfl with rfl | ⟨es, rfl, hl, he⟩
 ·exact ⟨[], rfl, Nat.zero_le _, fun y hy => by cases hy⟩
 ·obtain ⟨l, h1, h2, h3⟩ := bsc_inv18 es he
  exact ⟨l, congrArg AV.sl h1, by omega, h3⟩
theorem head_inv18 {B : Nat} {x : AV} (h : WfV ty B 29 x) : ∃ a : Hh, x = hhv a ∧ HhOk a := by
 obtain ⟨xs, rfl, h0⟩ := h.struct_inv rfl
 obtain ⟨x1, r1, rfl, g1, h1⟩ := h0.cons_inv
 obtain ⟨x2, r2, rfl, g2, h2⟩ := h1.cons_inv
 obtain ⟨x3, r3, rfl, g3, h3⟩ := h2.cons_inv
 obtain ⟨x4, r4, rfl, g4, h4⟩ := h3.cons_inv
 obtain ⟨x5, r5, rfl, g5, h5⟩ := h4.cons_inv
 obtain rfl := h5.nil_inv
 obtain ⟨n1, rfl, k1⟩ := g1.int_inv rfl
 obtain ⟨n2, rfl, k2⟩ := g2.int_inv rfl
 obtain ⟨n3, rfl, k3⟩ := g3.int_inv rfl
 obtain ⟨n4, rfl, _⟩ := g4.int_inv rfl
 obtain ⟨n5, rfl, _⟩ := g5.int_inv rfl
 obtain ⟨m1, rfl, v1⟩ := u32_lit18 k1
 obtain ⟨m2, rfl, v2⟩ := u32_lit18 k2
 obtain ⟨m3, rfl, v3⟩ := u32_lit18 k3
 exact ⟨⟨m1, m2, m3, n4, n5⟩, rfl, v1, v2, v3⟩
end Go.Proofs.YtnajpmepcffnaaaGreatDoor
end

section
/- law17: IpfixMessages, arguments read as data. -/
namespace Go.Proofs.YtnajpmepcffnaaaGreatDoor
open Go.Ve

theorem IpfixMessages_args (xs : List AV) (h : WfA ty 1048576 [29, 22] xs) : PCall P 4 xs (.bool true) := by
 obtain ⟨y1, r1, rfl, g1, h1⟩ := h.cons_inv
 obtain ⟨y2, r2, rfl, g2, h2⟩ := h1.cons_inv
 obtain rfl := h2.nil_inv
 obtain ⟨a, rfl, ha⟩ := head_inv18 g1
 obtain ⟨l, el, hl, hs⟩ := bsl_inv18 g2
 refine PCall.nils2 ?_
 show PCall P _ [hhv a, nl2 y2] _
 rw [el]
 exact IpfixMessages_run a ha l hl hs
end Go.Proofs.YtnajpmepcffnaaaGreatDoor
end
