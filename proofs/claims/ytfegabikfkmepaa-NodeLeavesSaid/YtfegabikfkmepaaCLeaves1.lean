import Derived.Test.YtfegabikfkmepaaCLeaves0
section
namespace Go.Proofs.Ytfegabikfkmepaa
open Go.RowKit Go.Gi Go.GiRow
set_option maxRecDepth 20000
set_option linter.unusedSimpArgs false
set_option linter.unusedVariables false
theorem size_al (w : World) (o : Obj) : (w.alloc o).heap.size = w.heap.size + 1 := by simp
theorem size_sr (w : World) (g : Nat) (cs : Array Value) : (w.setRow g cs).heap.size = w.heap.size := by simp [World.setRow]
theorem blk_setRow_far {w : World} {g T b : Nat} {cs : Array Value} (hb : Blk w g T cs) (cs' : Array Value) (h : g ≠ b) : Blk (w.setRow b cs') g T cs := (setRow_other w b g cs' h).trans hb
theorem own_sl {w : World} {base n : Nat} {e : TypeId} {size : Nat} {v : Value} {xs : List Value} (h : w.ownsRow base e size v n xs) : ∃ A c, v = .slice A n c := by
  rcases h.2 with ⟨rfl, rfl⟩ | ⟨g, cap, cur, rfl, _⟩
  · exact ⟨none, 0, rfl⟩
  · exact ⟨_, cap, rfl⟩
theorem own_le {w : World} {base base' n : Nat} {e : TypeId} {size : Nat} {v : Value} {xs : List Value} (h : w.ownsRow base e size v n xs) (hb : base' ≤ base) : w.ownsRow base' e size v n xs :=
  ⟨h.1, h.2.imp id fun ⟨g, cap, cur, e, h1, h2⟩ => ⟨g, cap, cur, e, Nat.le_trans hb h1, h2⟩⟩
theorem opCells {w : World} {g T : Nat} {k a : Int} {s o : ByteArray} (h : Blk w g T #[.int .i64 k, .int .i64 a, .string s, .string o]) : w.cell? ⟨g, 0, none⟩ = some (.int .i64 k) ∧ w.cell? ⟨g, 1, none⟩ = some (.int .i64 a) ∧ w.cell? ⟨g, 2, none⟩ = some (.string s) ∧ w.cell? ⟨g, 3, none⟩ = some (.string o) :=
  ⟨h.cell 0, h.cell 1, h.cell 2, h.cell 3⟩
theorem own_rdrows {w : World} {base : Nat} {A : Option Addr} {c : Nat} {l : List ByteArray} (h : w.ownsRow base 9 1 (.slice A l.length c) l.length (strV l)) : RdRows strC 1 w A l := fun k hk => by
  rcases h.2 with ⟨e, h0⟩ | ⟨g, cap, cur, e, hb, hh, _⟩
  · omega
  · injection e with e1 e2 e3
    subst e1
    refine ⟨g, 0, rfl, (Array.getElem?_eq_some_iff.1 hh).1, fun j u hu => ?_⟩
    have hj : j = 0 := by
      have := (List.getElem?_eq_some_iff.1 hu).1
      simpa [strC] using this
    subst hj
    subst e3
    have h1 := h.cellAt k (by omega)
    rw [Nat.zero_add, Nat.mul_one, Nat.add_zero, h1]
    simpa [strV, strC, List.getElem?_eq_getElem hk] using hu
def finR (num l KD : Int) (HD : ByteArray) (SL : List ByteArray) : Int × Int × Int × ByteArray × List ByteArray × Int :=
  if (485 : Int) - HD.size - slotsN SL < 0 then (0, 0, 0, ⟨#[]⟩, [], 30) else (num, l, KD, HD, SL, 0)
def apPost (w : World) (R : Int × Int × Int × ByteArray × List ByteArray × Int) : Ending → World → Prop := fun e w' =>
  ∃ v, e = .returned (.tuple #[.agg #[.int .u32 R.1, .int .u64 R.2.1, .int .i64 R.2.2.1, .string R.2.2.2.1, v], .int .i64 R.2.2.2.2.2]) ∧ w'.ownsRow w.heap.size 9 1 v R.2.2.2.2.1.length (strV R.2.2.2.2.1) ∧ Below w.heap.size w w'
theorem own_some {w : World} {base n c : Nat} {e : TypeId} {size : Nat} {A : Option Addr} {xs : List Value} (h : w.ownsRow base e size (.slice A n c) n xs) (hn : 0 < n) : ∃ g, A = some ⟨g, 0, none⟩ := by
  rcases h.2 with ⟨e, h0⟩ | ⟨g, cap, cur, e, _⟩
  · omega
  · injection e with e1
    exact ⟨g, e1⟩
theorem strV_at (l : List ByteArray) (i : Nat) (h : i < l.length) : (strV l)[i]? = some (.string l[i]) := by simp [strV, List.getElem?_eq_getElem h]
theorem strV_set (l : List ByteArray) (i : Nat) (s : ByteArray) : (strV l).set i (.string s) = strV (l.set i s) := by simp [strV, List.map_set]
theorem own_ne_new {w : World} {base n : Nat} {e : TypeId} {size : Nat} {v : Value} {xs : List Value} (h : w.ownsRow base e size v n xs) : v.ownBlock ≠ some w.heap.size := fun e => Nat.lt_irrefl _ (h.lt _ e).2
def opEs (k a : Int) (s o : ByteArray) : Int := opE k a s.data.toList o.data.toList
theorem pcheck_str (k a : Int) (s o : ByteArray) (w : World) :
    Calls Try.prog 32 #[.agg #[.int .i64 k, .int .i64 a, .string s, .string o]] w fun e w' => e = .returned (.int .i64 (opEs k a s o)) ∧ Below w.heap.size w w' := by
  have := pcheck_any k a s.data.toList o.data.toList w
  rwa [bs_toList, bs_toList] at this
set_option maxHeartbeats 3000000 in
theorem apply_bad (num lsn kind : Int) (head : ByteArray) (slots : List ByteArray) (AA : Option Addr) (cc : Nat) (k a : Int) (s o : ByteArray) (l : Int) (w : World) (hA : RdRows strC 1 w AA slots) (h64 : slots.length ≤ 64) (hE : opEs k a s o = 33) (hS : True) :
    Calls Try.prog 11 #[.agg #[.int .u32 num, .int .u64 lsn, .int .i64 kind, .string head, .slice AA slots.length cc], .agg #[.int .i64 k, .int .i64 a, .string s, .string o], .int .u64 l] w (apPost w (0, 0, 0, ⟨#[]⟩, [], 33)) := by
  have HA := Lib.hid hA
  have HL := Lib.hid h64
  have HS := Lib.hid hS
  have HE := Lib.hid hE
  clear hA h64 hS hE
  go_enter Try.func11, Try.ntmps11
  go_upto_region 1 with fail
  have hP : Blk (((w.alloc (.cells #[.int .u32 num, .int .u64 lsn, .int .i64 kind, .string head, .slice AA slots.length cc] 28)).alloc (.cells #[.int .i64 k, .int .i64 a, .string s, .string o] 38)).alloc (.cells #[.int .u32 0, .int .u64 0, .int .i64 0, .string ⟨#[]⟩, .slice none 0 0] 28)) w.heap.size 28 #[.int .u32 num, .int .u64 lsn, .int .i64 kind, .string head, .slice AA slots.length cc] := ((Blk.new w 28 #[.int .u32 num, .int .u64 lsn, .int .i64 kind, .string head, .slice AA slots.length cc]).alloc _).alloc _
  have hO : Blk (((w.alloc (.cells #[.int .u32 num, .int .u64 lsn, .int .i64 kind, .string head, .slice AA slots.length cc] 28)).alloc (.cells #[.int .i64 k, .int .i64 a, .string s, .string o] 38)).alloc (.cells #[.int .u32 0, .int .u64 0, .int .i64 0, .string ⟨#[]⟩, .slice none 0 0] 28)) (w.heap.size + 1) 38 #[.int .i64 k, .int .i64 a, .string s, .string o] := by
    have := (Blk.new (w.alloc (.cells #[.int .u32 num, .int .u64 lsn, .int .i64 kind, .string head, .slice AA slots.length cc] 28)) 38 #[.int .i64 k, .int .i64 a, .string s, .string o]).alloc (.cells #[.int .u32 0, .int .u64 0, .int .i64 0, .string ⟨#[]⟩, .slice none 0 0] 28)
    rwa [size_al] at this
  have hZ : Blk (((w.alloc (.cells #[.int .u32 num, .int .u64 lsn, .int .i64 kind, .string head, .slice AA slots.length cc] 28)).alloc (.cells #[.int .i64 k, .int .i64 a, .string s, .string o] 38)).alloc (.cells #[.int .u32 0, .int .u64 0, .int .i64 0, .string ⟨#[]⟩, .slice none 0 0] 28)) (w.heap.size + 2) 28 #[.int .u32 0, .int .u64 0, .int .i64 0, .string ⟨#[]⟩, .slice none 0 0] := by
    have := Blk.new ((w.alloc (.cells #[.int .u32 num, .int .u64 lsn, .int .i64 kind, .string head, .slice AA slots.length cc] 28)).alloc (.cells #[.int .i64 k, .int .i64 a, .string s, .string o] 38)) 28 #[.int .u32 0, .int .u64 0, .int .i64 0, .string ⟨#[]⟩, .slice none 0 0]
    rwa [size_al, size_al] at this
  have hK := balloc (balloc (balloc (Below.refl w.heap.size w) (.cells #[.int .u32 num, .int .u64 lsn, .int .i64 kind, .string head, .slice AA slots.length cc] 28)) (.cells #[.int .i64 k, .int .i64 a, .string s, .string o] 38)) (.cells #[.int .u32 0, .int .u64 0, .int .i64 0, .string ⟨#[]⟩, .slice none 0 0] 28)
  have hN : w.heap.size + 3 ≤ (((w.alloc (.cells #[.int .u32 num, .int .u64 lsn, .int .i64 kind, .string head, .slice AA slots.length cc] 28)).alloc (.cells #[.int .i64 k, .int .i64 a, .string s, .string o] 38)).alloc (.cells #[.int .u32 0, .int .u64 0, .int .i64 0, .string ⟨#[]⟩, .slice none 0 0] 28)).heap.size := by rw [size_al, size_al, size_al]; omega
  have HP := Lib.hid hP
  have HO := Lib.hid hO
  have HZ := Lib.hid hZ
  have HK := Lib.hid hK
  have HN := Lib.hid hN
  clear hP hO hZ hK hN
  generalize ((w.alloc (.cells #[.int .u32 num, .int .u64 lsn, .int .i64 kind, .string head, .slice AA slots.length cc] 28)).alloc (.cells #[.int .i64 k, .int .i64 a, .string s, .string o] 38)).alloc (.cells #[.int .u32 0, .int .u64 0, .int .i64 0, .string ⟨#[]⟩, .slice none 0 0] 28) = w0 at *
  go_wp2_with (first | (refine wpList_load_row rfl 28 (.tmp 3) rfl w.heap.size rfl 28 #[.int .u32 num, .int .u64 lsn, .int .i64 kind, .string head, .slice AA slots.length cc] (0, 0) _ HP.out Try.underlying28 rfl (by kernel_rfl) ?_) | (refine wpList_load_row rfl 38 (.tmp 4) rfl (w.heap.size + 1) rfl 38 #[.int .i64 k, .int .i64 a, .string s, .string o] (0, 0) _ HO.out Try.underlying38 rfl (by kernel_rfl) ?_) | (go_at_call 32; refine (pcheck_str k a s o _).mono ?_; rintro e w1 ⟨rfl, hb1⟩; rw [HE.out]; have HP1 := Lib.hid (HP.out.step hb1); have HO1 := Lib.hid (HO.out.step hb1); have HZ1 := Lib.hid (HZ.out.step hb1); have HK1 := Lib.hid (bstep HK.out hb1); have HN1 := Lib.hid (Nat.le_trans HN.out hb1.size); clear HN HK HP HO HZ; have HP := HP1; clear HP1; have HO := HO1; clear HO1; have HZ := HZ1; clear HZ1; have HK := HK1; clear HK1; have HN := HN1; clear HN1; clear hb1) | (refine wpList_store_row rfl 28 (.tmp 6) (.tmp 16) rfl (w.heap.size + 2) #[.int .u32 0, .int .u64 0, .int .i64 0, .string ⟨#[]⟩, .slice none 0 0] rfl rfl 28 #[.int .u32 0, .int .u64 0, .int .i64 0, .string ⟨#[]⟩, .slice none 0 0] HZ.out (by kernel_rfl) rfl (by simp [Value.oneCell']) ?_))
  refine bodyPost_ret (v := .tuple #[.agg #[.int .u32 0, .int .u64 0, .int .i64 0, .string ⟨#[]⟩, .slice none 0 0], .int .i64 33]) (by exact results_ct (p := 6) (q := 7) rfl _ _ (w.heap.size + 2) 28 #[.int .u32 0, .int .u64 0, .int .i64 0, .string ⟨#[]⟩, .slice none 0 0] (0, 0) _ rfl (blk_setRow HZ.out) Try.underlying28 rfl (by kernel_rfl)) rfl ?_
  exact ⟨_, rfl, World.ownsRow_nil _ _ _ _, setRow_below HK.out (by omega) _⟩
set_option maxHeartbeats 3000000 in
theorem apply_st (num lsn kind : Int) (head : ByteArray) (slots : List ByteArray) (AA : Option Addr) (cc : Nat) (k a : Int) (s o : ByteArray) (l : Int) (w : World) (hA : RdRows strC 1 w AA slots) (h64 : slots.length ≤ 64) (es : Int) (hes : es ≠ 0) (hE : opEs k a s o = 0) (hS : ∀ w', Below w.heap.size w w' → Calls Try.prog 33 #[.agg #[.int .u32 num, .int .u64 lsn, .int .i64 kind, .string head, .slice AA slots.length cc], .agg #[.int .i64 k, .int .i64 a, .string s, .string o]] w' fun e w'' => e = .returned (.int .i64 es) ∧ Below w'.heap.size w' w'') :
    Calls Try.prog 11 #[.agg #[.int .u32 num, .int .u64 lsn, .int .i64 kind, .string head, .slice AA slots.length cc], .agg #[.int .i64 k, .int .i64 a, .string s, .string o], .int .u64 l] w (apPost w (0, 0, 0, ⟨#[]⟩, [], es)) := by
  have d0 : decide (es = 0) = false := by simpa using hes
  have HA := Lib.hid hA
  have HL := Lib.hid h64
  have HS := Lib.hid hS
  have HE := Lib.hid hE
  clear hA h64 hS hE
  go_enter Try.func11, Try.ntmps11
  go_upto_region 1 with fail
  have hP : Blk (((w.alloc (.cells #[.int .u32 num, .int .u64 lsn, .int .i64 kind, .string head, .slice AA slots.length cc] 28)).alloc (.cells #[.int .i64 k, .int .i64 a, .string s, .string o] 38)).alloc (.cells #[.int .u32 0, .int .u64 0, .int .i64 0, .string ⟨#[]⟩, .slice none 0 0] 28)) w.heap.size 28 #[.int .u32 num, .int .u64 lsn, .int .i64 kind, .string head, .slice AA slots.length cc] := ((Blk.new w 28 #[.int .u32 num, .int .u64 lsn, .int .i64 kind, .string head, .slice AA slots.length cc]).alloc _).alloc _
  have hO : Blk (((w.alloc (.cells #[.int .u32 num, .int .u64 lsn, .int .i64 kind, .string head, .slice AA slots.length cc] 28)).alloc (.cells #[.int .i64 k, .int .i64 a, .string s, .string o] 38)).alloc (.cells #[.int .u32 0, .int .u64 0, .int .i64 0, .string ⟨#[]⟩, .slice none 0 0] 28)) (w.heap.size + 1) 38 #[.int .i64 k, .int .i64 a, .string s, .string o] := by
    have := (Blk.new (w.alloc (.cells #[.int .u32 num, .int .u64 lsn, .int .i64 kind, .string head, .slice AA slots.length cc] 28)) 38 #[.int .i64 k, .int .i64 a, .string s, .string o]).alloc (.cells #[.int .u32 0, .int .u64 0, .int .i64 0, .string ⟨#[]⟩, .slice none 0 0] 28)
    rwa [size_al] at this
  have hZ : Blk (((w.alloc (.cells #[.int .u32 num, .int .u64 lsn, .int .i64 kind, .string head, .slice AA slots.length cc] 28)).alloc (.cells #[.int .i64 k, .int .i64 a, .string s, .string o] 38)).alloc (.cells #[.int .u32 0, .int .u64 0, .int .i64 0, .string ⟨#[]⟩, .slice none 0 0] 28)) (w.heap.size + 2) 28 #[.int .u32 0, .int .u64 0, .int .i64 0, .string ⟨#[]⟩, .slice none 0 0] := by
    have := Blk.new ((w.alloc (.cells #[.int .u32 num, .int .u64 lsn, .int .i64 kind, .string head, .slice AA slots.length cc] 28)).alloc (.cells #[.int .i64 k, .int .i64 a, .string s, .string o] 38)) 28 #[.int .u32 0, .int .u64 0, .int .i64 0, .string ⟨#[]⟩, .slice none 0 0]
    rwa [size_al, size_al] at this
  have hK := balloc (balloc (balloc (Below.refl w.heap.size w) (.cells #[.int .u32 num, .int .u64 lsn, .int .i64 kind, .string head, .slice AA slots.length cc] 28)) (.cells #[.int .i64 k, .int .i64 a, .string s, .string o] 38)) (.cells #[.int .u32 0, .int .u64 0, .int .i64 0, .string ⟨#[]⟩, .slice none 0 0] 28)
  have hN : w.heap.size + 3 ≤ (((w.alloc (.cells #[.int .u32 num, .int .u64 lsn, .int .i64 kind, .string head, .slice AA slots.length cc] 28)).alloc (.cells #[.int .i64 k, .int .i64 a, .string s, .string o] 38)).alloc (.cells #[.int .u32 0, .int .u64 0, .int .i64 0, .string ⟨#[]⟩, .slice none 0 0] 28)).heap.size := by rw [size_al, size_al, size_al]; omega
  have HP := Lib.hid hP
  have HO := Lib.hid hO
  have HZ := Lib.hid hZ
  have HK := Lib.hid hK
  have HN := Lib.hid hN
  clear hP hO hZ hK hN
  generalize ((w.alloc (.cells #[.int .u32 num, .int .u64 lsn, .int .i64 kind, .string head, .slice AA slots.length cc] 28)).alloc (.cells #[.int .i64 k, .int .i64 a, .string s, .string o] 38)).alloc (.cells #[.int .u32 0, .int .u64 0, .int .i64 0, .string ⟨#[]⟩, .slice none 0 0] 28) = w0 at *
  go_wp2_with (first | (refine wpList_load_row rfl 28 (.tmp 3) rfl w.heap.size rfl 28 #[.int .u32 num, .int .u64 lsn, .int .i64 kind, .string head, .slice AA slots.length cc] (0, 0) _ HP.out Try.underlying28 rfl (by kernel_rfl) ?_) | (refine wpList_load_row rfl 38 (.tmp 4) rfl (w.heap.size + 1) rfl 38 #[.int .i64 k, .int .i64 a, .string s, .string o] (0, 0) _ HO.out Try.underlying38 rfl (by kernel_rfl) ?_) | (go_at_call 32; refine (pcheck_str k a s o _).mono ?_; rintro e w1 ⟨rfl, hb1⟩; rw [HE.out]; have HP1 := Lib.hid (HP.out.step hb1); have HO1 := Lib.hid (HO.out.step hb1); have HZ1 := Lib.hid (HZ.out.step hb1); have HK1 := Lib.hid (bstep HK.out hb1); have HN1 := Lib.hid (Nat.le_trans HN.out hb1.size); clear HN HK HP HO HZ; have HP := HP1; clear HP1; have HO := HO1; clear HO1; have HZ := HZ1; clear HZ1; have HK := HK1; clear HK1; have HN := HN1; clear HN1; clear hb1) | (go_at_call 33; refine (HS.out _ HK.out).mono ?_; rintro e w1 ⟨rfl, hb1⟩; have HP1 := Lib.hid (HP.out.step hb1); have HO1 := Lib.hid (HO.out.step hb1); have HZ1 := Lib.hid (HZ.out.step hb1); have HK1 := Lib.hid (bstep HK.out hb1); have HN1 := Lib.hid (Nat.le_trans HN.out hb1.size); clear HN HK HP HO HZ; have HP := HP1; clear HP1; have HO := HO1; clear HO1; have HZ := HZ1; clear HZ1; have HK := HK1; clear HK1; have HN := HN1; clear HN1; clear hb1) | (refine wpList_store_row rfl 28 (.tmp 6) (.tmp 23) rfl (w.heap.size + 2) #[.int .u32 0, .int .u64 0, .int .i64 0, .string ⟨#[]⟩, .slice none 0 0] rfl rfl 28 #[.int .u32 0, .int .u64 0, .int .i64 0, .string ⟨#[]⟩, .slice none 0 0] HZ.out (by kernel_rfl) rfl (by simp [Value.oneCell']) ?_))
  refine bodyPost_ret (v := .tuple #[.agg #[.int .u32 0, .int .u64 0, .int .i64 0, .string ⟨#[]⟩, .slice none 0 0], .int .i64 es]) (by exact results_ct (p := 6) (q := 7) rfl _ _ (w.heap.size + 2) 28 #[.int .u32 0, .int .u64 0, .int .i64 0, .string ⟨#[]⟩, .slice none 0 0] (0, 0) _ rfl (blk_setRow HZ.out) Try.underlying28 rfl (by kernel_rfl)) rfl ?_
  exact ⟨_, rfl, World.ownsRow_nil _ _ _ _, setRow_below HK.out (by omega) _⟩
set_option maxHeartbeats 3000000 in
theorem apply_k1 (num lsn kind : Int) (head : ByteArray) (slots : List ByteArray) (AA : Option Addr) (cc : Nat) (a : Int) (s o : ByteArray) (l : Int) (w : World) (hA : RdRows strC 1 w AA slots) (h64 : slots.length ≤ 64) (hE : opEs 1 a s o = 0) (hS : ∀ w', Below w.heap.size w w' → Calls Try.prog 33 #[.agg #[.int .u32 num, .int .u64 lsn, .int .i64 kind, .string head, .slice AA slots.length cc], .agg #[.int .i64 1, .int .i64 a, .string s, .string o]] w' fun e w'' => e = .returned (.int .i64 0) ∧ Below w'.heap.size w' w'')  (hsz : ∀ x ∈ ([] : List ByteArray), x.size ≤ 140737488351232) (hhz : (s).size ≤ 140737488351232) :
    Calls Try.prog 11 #[.agg #[.int .u32 num, .int .u64 lsn, .int .i64 kind, .string head, .slice AA slots.length cc], .agg #[.int .i64 1, .int .i64 a, .string s, .string o], .int .u64 l] w (apPost w (finR num l (a) (s) (([] : List ByteArray)))) := by
  have HSZ := Lib.hid hsz
  have HHZ := Lib.hid hhz
  clear hsz hhz
  have HA := Lib.hid hA
  have HL := Lib.hid h64
  have HS := Lib.hid hS
  have HE := Lib.hid hE
  clear hA h64 hS hE
  go_enter Try.func11, Try.ntmps11
  go_upto_region 1 with fail
  have hP : Blk (((w.alloc (.cells #[.int .u32 num, .int .u64 lsn, .int .i64 kind, .string head, .slice AA slots.length cc] 28)).alloc (.cells #[.int .i64 1, .int .i64 a, .string s, .string o] 38)).alloc (.cells #[.int .u32 0, .int .u64 0, .int .i64 0, .string ⟨#[]⟩, .slice none 0 0] 28)) w.heap.size 28 #[.int .u32 num, .int .u64 lsn, .int .i64 kind, .string head, .slice AA slots.length cc] := ((Blk.new w 28 #[.int .u32 num, .int .u64 lsn, .int .i64 kind, .string head, .slice AA slots.length cc]).alloc _).alloc _
  have hO : Blk (((w.alloc (.cells #[.int .u32 num, .int .u64 lsn, .int .i64 kind, .string head, .slice AA slots.length cc] 28)).alloc (.cells #[.int .i64 1, .int .i64 a, .string s, .string o] 38)).alloc (.cells #[.int .u32 0, .int .u64 0, .int .i64 0, .string ⟨#[]⟩, .slice none 0 0] 28)) (w.heap.size + 1) 38 #[.int .i64 1, .int .i64 a, .string s, .string o] := by
    have := (Blk.new (w.alloc (.cells #[.int .u32 num, .int .u64 lsn, .int .i64 kind, .string head, .slice AA slots.length cc] 28)) 38 #[.int .i64 1, .int .i64 a, .string s, .string o]).alloc (.cells #[.int .u32 0, .int .u64 0, .int .i64 0, .string ⟨#[]⟩, .slice none 0 0] 28)
    rwa [size_al] at this
  have hZ : Blk (((w.alloc (.cells #[.int .u32 num, .int .u64 lsn, .int .i64 kind, .string head, .slice AA slots.length cc] 28)).alloc (.cells #[.int .i64 1, .int .i64 a, .string s, .string o] 38)).alloc (.cells #[.int .u32 0, .int .u64 0, .int .i64 0, .string ⟨#[]⟩, .slice none 0 0] 28)) (w.heap.size + 2) 28 #[.int .u32 0, .int .u64 0, .int .i64 0, .string ⟨#[]⟩, .slice none 0 0] := by
    have := Blk.new ((w.alloc (.cells #[.int .u32 num, .int .u64 lsn, .int .i64 kind, .string head, .slice AA slots.length cc] 28)).alloc (.cells #[.int .i64 1, .int .i64 a, .string s, .string o] 38)) 28 #[.int .u32 0, .int .u64 0, .int .i64 0, .string ⟨#[]⟩, .slice none 0 0]
    rwa [size_al, size_al] at this
  have hK := balloc (balloc (balloc (Below.refl w.heap.size w) (.cells #[.int .u32 num, .int .u64 lsn, .int .i64 kind, .string head, .slice AA slots.length cc] 28)) (.cells #[.int .i64 1, .int .i64 a, .string s, .string o] 38)) (.cells #[.int .u32 0, .int .u64 0, .int .i64 0, .string ⟨#[]⟩, .slice none 0 0] 28)
  have hN : w.heap.size + 3 ≤ (((w.alloc (.cells #[.int .u32 num, .int .u64 lsn, .int .i64 kind, .string head, .slice AA slots.length cc] 28)).alloc (.cells #[.int .i64 1, .int .i64 a, .string s, .string o] 38)).alloc (.cells #[.int .u32 0, .int .u64 0, .int .i64 0, .string ⟨#[]⟩, .slice none 0 0] 28)).heap.size := by rw [size_al, size_al, size_al]; omega
  have HP := Lib.hid hP
  have HO := Lib.hid hO
  have HZ := Lib.hid hZ
  have HK := Lib.hid hK
  have HN := Lib.hid hN
  clear hP hO hZ hK hN
  generalize ((w.alloc (.cells #[.int .u32 num, .int .u64 lsn, .int .i64 kind, .string head, .slice AA slots.length cc] 28)).alloc (.cells #[.int .i64 1, .int .i64 a, .string s, .string o] 38)).alloc (.cells #[.int .u32 0, .int .u64 0, .int .i64 0, .string ⟨#[]⟩, .slice none 0 0] 28) = w0 at *
  go_upto_region 7 with (first | (refine wpList_load_row rfl 28 (.tmp 3) rfl w.heap.size rfl 28 #[.int .u32 num, .int .u64 lsn, .int .i64 kind, .string head, .slice AA slots.length cc] (0, 0) _ HP.out Try.underlying28 rfl (by kernel_rfl) ?_) | (refine wpList_load_row rfl 38 (.tmp 4) rfl (w.heap.size + 1) rfl 38 #[.int .i64 1, .int .i64 a, .string s, .string o] (0, 0) _ HO.out Try.underlying38 rfl (by kernel_rfl) ?_) | (go_at_call 32; refine (pcheck_str 1 a s o _).mono ?_; rintro e w1 ⟨rfl, hb1⟩; rw [HE.out]; have HP1 := Lib.hid (HP.out.step hb1); have HO1 := Lib.hid (HO.out.step hb1); have HZ1 := Lib.hid (HZ.out.step hb1); have HK1 := Lib.hid (bstep HK.out hb1); have HN1 := Lib.hid (Nat.le_trans HN.out hb1.size); clear HN HK HP HO HZ; have HP := HP1; clear HP1; have HO := HO1; clear HO1; have HZ := HZ1; clear HZ1; have HK := HK1; clear HK1; have HN := HN1; clear HN1; clear hb1) | (go_at_call 33; refine (HS.out _ HK.out).mono ?_; rintro e w1 ⟨rfl, hb1⟩; have HP1 := Lib.hid (HP.out.step hb1); have HO1 := Lib.hid (HO.out.step hb1); have HZ1 := Lib.hid (HZ.out.step hb1); have HK1 := Lib.hid (bstep HK.out hb1); have HN1 := Lib.hid (Nat.le_trans HN.out hb1.size); clear HN HK HP HO HZ; have HP := HP1; clear HP1; have HO := HO1; clear HO1; have HZ := HZ1; clear HZ1; have HK := HK1; clear HK1; have HN := HN1; clear HN1; clear hb1))
  go_upto_region 8 with (first | (refine wpList_load_row rfl 28 (.tmp 3) rfl w.heap.size rfl 28 #[.int .u32 num, .int .u64 lsn, .int .i64 kind, .string head, .slice AA slots.length cc] (0, 0) _ HP.out Try.underlying28 rfl (by kernel_rfl) ?_) | (refine wpList_store_row rfl 28 (.tmp 10) (.tmp 25) rfl w1.heap.size #[.int .u32 num, .int .u64 lsn, .int .i64 kind, .string head, .slice AA slots.length cc] rfl rfl 28 #[.int .u32 0, .int .u64 0, .int .i64 0, .string ⟨#[]⟩, .slice none 0 0] (Blk.new w1 28 #[.int .u32 0, .int .u64 0, .int .i64 0, .string ⟨#[]⟩, .slice none 0 0]) (by kernel_rfl) rfl (by simp [Value.oneCell']) ?_))
  have hX := blk_setRow (cs' := #[.int .u32 num, .int .u64 lsn, .int .i64 kind, .string head, .slice AA slots.length cc]) (Blk.new w1 28 #[.int .u32 0, .int .u64 0, .int .i64 0, .string ⟨#[]⟩, .slice none 0 0])
  have hK := setRow_below (balloc HK.out (.cells #[.int .u32 0, .int .u64 0, .int .i64 0, .string ⟨#[]⟩, .slice none 0 0] 28)) (g := w1.heap.size) HK.out.size #[.int .u32 num, .int .u64 lsn, .int .i64 kind, .string head, .slice AA slots.length cc]
  have hP := blk_setRow_far (HP.out.alloc (.cells #[.int .u32 0, .int .u64 0, .int .i64 0, .string ⟨#[]⟩, .slice none 0 0] 28)) (b := w1.heap.size) #[.int .u32 num, .int .u64 lsn, .int .i64 kind, .string head, .slice AA slots.length cc] (by have := HN.out; omega)
  have hO := blk_setRow_far (HO.out.alloc (.cells #[.int .u32 0, .int .u64 0, .int .i64 0, .string ⟨#[]⟩, .slice none 0 0] 28)) (b := w1.heap.size) #[.int .u32 num, .int .u64 lsn, .int .i64 kind, .string head, .slice AA slots.length cc] (by have := HN.out; omega)
  have hZ := blk_setRow_far (HZ.out.alloc (.cells #[.int .u32 0, .int .u64 0, .int .i64 0, .string ⟨#[]⟩, .slice none 0 0] 28)) (b := w1.heap.size) #[.int .u32 num, .int .u64 lsn, .int .i64 kind, .string head, .slice AA slots.length cc] (by have := HN.out; omega)
  have hN : w1.heap.size + 1 ≤ ((w1.alloc (.cells #[.int .u32 0, .int .u64 0, .int .i64 0, .string ⟨#[]⟩, .slice none 0 0] 28)).setRow w1.heap.size #[.int .u32 num, .int .u64 lsn, .int .i64 kind, .string head, .slice AA slots.length cc]).heap.size := by rw [size_sr, size_al]; omega
  have hN0 := HN.out
  clear HP HO HZ HK HN
  obtain ⟨x0, hx0⟩ : ∃ x, x = w1.heap.size := ⟨_, rfl⟩
  rw [← hx0] at hX hP hO hZ hK hN hN0
  simp only [← hx0]
  have hcl := clone_any (A := AA) (l := slots) cc (rows_bl1 HA.out hK) (by have := HL.out; omega)
  generalize ((w1.alloc (.cells #[.int .u32 0, .int .u64 0, .int .i64 0, .string ⟨#[]⟩, .slice none 0 0] 28)).setRow x0 #[.int .u32 num, .int .u64 lsn, .int .i64 kind, .string head, .slice AA slots.length cc]) = w2 at *
  have HX := Lib.hid hX
  have HP := Lib.hid hP
  have HO := Lib.hid hO
  have HZ := Lib.hid hZ
  have HK := Lib.hid hK
  have HN := Lib.hid hN
  have HN0 := Lib.hid hN0
  have HC := Lib.hid hcl
  have c4 := (pgCells hP).2.2.2.2
  clear hX hP hO hZ hK hN hN0 hcl hx0
  go_upto_region 9 with (go_at_call 34; refine HC.out.mono ?_; rintro e w3 ⟨v, rfl, ho1, hb1⟩; obtain ⟨AV, cv, rfl⟩ := own_sl ho1; have ho1 := own_le ho1 HK.out.size; have HP1 := Lib.hid (HP.out.step hb1); have HO1 := Lib.hid (HO.out.step hb1); have HZ1 := Lib.hid (HZ.out.step hb1); have HX1 := Lib.hid (HX.out.step hb1); have HK1 := Lib.hid (bstep HK.out hb1); have HN1 := Lib.hid (Nat.le_trans HN.out hb1.size); clear HN HK HP HO HZ HX; have HP := HP1; clear HP1; have HO := HO1; clear HO1; have HZ := HZ1; clear HZ1; have HX := HX1; clear HX1; have HK := HK1; clear HK1; have HN := HN1; clear HN1; have HR := Lib.hid ho1; have HB0 := Lib.hid HN0.out; clear hb1 ho1 HC c4; obtain ⟨cx0, cx1, cx2, cx3, cx4⟩ := pgCells HX.out; have fx1 := HX.out.frozen 1; have fx4 := HX.out.frozen 4)
  have hX : Blk ((w3.setCell ⟨x0, 4, none⟩ (.slice AV slots.length cv)).setCell ⟨x0, 1, none⟩ (.int .u64 l)) x0 28 #[.int .u32 num, .int .u64 l, .int .i64 kind, .string head, .slice AV slots.length cv] := (HX.out.set_ 4 (.slice AV slots.length cv)).set_ 1 (.int .u64 l)
  have hP := (HP.out.far (p := ⟨x0, 4, none⟩) (by have := HB0.out; show _ ≠ x0; omega) (.slice AV slots.length cv)).far (p := ⟨x0, 1, none⟩) (by have := HB0.out; show _ ≠ x0; omega) (.int .u64 l)
  have hO := (HO.out.far (p := ⟨x0, 4, none⟩) (by have := HB0.out; show _ ≠ x0; omega) (.slice AV slots.length cv)).far (p := ⟨x0, 1, none⟩) (by have := HB0.out; show _ ≠ x0; omega) (.int .u64 l)
  have hZ := (HZ.out.far (p := ⟨x0, 4, none⟩) (by have := HB0.out; show _ ≠ x0; omega) (.slice AV slots.length cv)).far (p := ⟨x0, 1, none⟩) (by have := HB0.out; show _ ≠ x0; omega) (.int .u64 l)
  have hR := own_set (b := x0) (o := 1) (u := .int .u64 l) (own_set (b := x0) (o := 4) (u := .slice AV slots.length cv) HR.out HX.out (by decide)) (HX.out.set_ 4 _) (by decide)
  have hK := bsetAt (o := 1) (bsetAt (o := 4) HK.out (b := x0) (by have := HB0.out; omega) (.slice AV slots.length cv)) (b := x0) (by have := HB0.out; omega) (.int .u64 l)
  have hN : x0 + 1 ≤ ((w3.setCell ⟨x0, 4, none⟩ (.slice AV slots.length cv)).setCell ⟨x0, 1, none⟩ (.int .u64 l)).heap.size := by simpa using HN.out
  clear HX HP HO HZ HR HK HN HA HS HE cx0 cx1 cx2 cx3 cx4 fx1 fx4
  generalize (w3.setCell ⟨x0, 4, none⟩ (.slice AV slots.length cv)).setCell ⟨x0, 1, none⟩ (.int .u64 l) = w4 at *
  have HX := Lib.hid hX
  have HP := Lib.hid hP
  have HO := Lib.hid hO
  have HZ := Lib.hid hZ
  have HR := Lib.hid hR
  have HK := Lib.hid hK
  have HN := Lib.hid hN
  obtain ⟨co0, co1, co2, co3⟩ := opCells hO
  obtain ⟨cx0, cx1, cx2, cx3, cx4⟩ := pgCells hX
  clear hX hP hO hZ hR hK hN
  have H64 : Hid (([] : List ByteArray).length ≤ 64) := Lib.hid (by simp)
  obtain ⟨cp0, cp1, cp2, cp3, cp4⟩ := pgCells HP.out
  go_upto_region 25 with (refine wpList_store_row rfl 28 (.tmp 10) (.tmp 43) rfl x0 #[.int .u32 num, .int .u64 l, .int .i64 a, .string s, .slice none 0 0] rfl rfl 28 #[.int .u32 num, .int .u64 l, .int .i64 kind, .string head, .slice AV slots.length cv] HX.out (by kernel_rfl) rfl (by simp [Value.oneCell']) ?_)
  have hX := blk_setRow (cs' := #[.int .u32 num, .int .u64 l, .int .i64 a, .string s, .slice none 0 0]) HX.out
  have hZ := blk_setRow_far HZ.out (b := x0) #[.int .u32 num, .int .u64 l, .int .i64 a, .string s, .slice none 0 0] (by have := HB0.out; omega)
  have hK := setRow_below HK.out (g := x0) (by have := HB0.out; omega) #[.int .u32 num, .int .u64 l, .int .i64 a, .string s, .slice none 0 0]
  clear HX HZ HK HR HP HO HN HN0 co0 co1 co2 co3 cx0 cx1 cx2 cx3 cx4 cp0 cp1 cp2 cp3 cp4
  generalize w4.setRow x0 #[.int .u32 num, .int .u64 l, .int .i64 a, .string s, .slice none 0 0] = w5 at *
  have HX := Lib.hid hX
  have HZ := Lib.hid hZ
  have HK := Lib.hid hK
  have HR := Lib.hid (World.ownsRow_nil w5 w.heap.size 9 1)
  clear hX hZ hK
  have hrm := room_any num l a s ([] : List ByteArray) none 0 w5 (own_rdrows HR.out) H64.out HSZ.out HHZ.out
  have HRm := Lib.hid hrm
  clear hrm
  have hf1 : (485 : Int) - (s).size - slotsN (([] : List ByteArray)) < 0 → finR num l (a) (s) (([] : List ByteArray)) = (0, 0, 0, ⟨#[]⟩, [], 30) := fun h => if_pos h
  have hf2 : ¬ (485 : Int) - (s).size - slotsN (([] : List ByteArray)) < 0 → finR num l (a) (s) (([] : List ByteArray)) = (num, l, a, s, ([] : List ByteArray), 0) := fun h => if_neg h
  have HF1 := Lib.hid hf1
  have HF2 := Lib.hid hf2
  clear hf1 hf2
  generalize hrm : (485 : Int) - (s).size - slotsN (([] : List ByteArray)) = rm at *
  by_cases hr : rm < 0
  · have d5 : decide (rm < 0) = true := by simpa using hr
    go_wp2_with (first | (refine wpList_load_row rfl 28 (.tmp 10) rfl x0 rfl 28 #[.int .u32 num, .int .u64 l, .int .i64 a, .string s, .slice none ([] : List ByteArray).length 0] (0, 0) _ HX.out Try.underlying28 rfl (by kernel_rfl) ?_) | (go_at_call 9; refine HRm.out.mono ?_; rintro e w9 ⟨rfl, hb9⟩; have HX1 := Lib.hid (HX.out.step hb9); have HZ1 := Lib.hid (HZ.out.step hb9); have HR1 := Lib.hid (own_below HR.out hb9); have HK1 := Lib.hid (bstep HK.out hb9); clear HX HZ HR HK hb9; have HX := HX1; have HZ := HZ1; have HR := HR1; have HK := HK1; clear HX1 HZ1 HR1 HK1) | (refine wpList_store_row rfl 28 (.tmp 6) (.tmp 119) rfl (w.heap.size + 2) #[.int .u32 0, .int .u64 0, .int .i64 0, .string ⟨#[]⟩, .slice none 0 0] rfl rfl 28 #[.int .u32 0, .int .u64 0, .int .i64 0, .string ⟨#[]⟩, .slice none 0 0] HZ.out (by kernel_rfl) rfl (by simp [Value.oneCell']) ?_))
    refine bodyPost_ret (v := .tuple #[.agg #[.int .u32 0, .int .u64 0, .int .i64 0, .string ⟨#[]⟩, .slice none 0 0], .int .i64 30]) (by exact results_ct (p := 6) (q := 7) rfl _ _ (w.heap.size + 2) 28 #[.int .u32 0, .int .u64 0, .int .i64 0, .string ⟨#[]⟩, .slice none 0 0] (0, 0) _ rfl (blk_setRow HZ.out) Try.underlying28 rfl (by kernel_rfl)) rfl ?_
    rw [HF1.out hr]
    exact ⟨_, rfl, World.ownsRow_nil _ _ _ _, setRow_below HK.out (by omega) _⟩
  · have d5 : decide (rm < 0) = false := by simpa using hr
    go_wp2_with (first | (refine wpList_load_row rfl 28 (.tmp 10) rfl x0 rfl 28 #[.int .u32 num, .int .u64 l, .int .i64 a, .string s, .slice none ([] : List ByteArray).length 0] (0, 0) _ HX.out Try.underlying28 rfl (by kernel_rfl) ?_) | (go_at_call 9; refine HRm.out.mono ?_; rintro e w9 ⟨rfl, hb9⟩; have HX1 := Lib.hid (HX.out.step hb9); have HZ1 := Lib.hid (HZ.out.step hb9); have HR1 := Lib.hid (own_below HR.out hb9); have HK1 := Lib.hid (bstep HK.out hb9); clear HX HZ HR HK hb9; have HX := HX1; have HZ := HZ1; have HR := HR1; have HK := HK1; clear HX1 HZ1 HR1 HK1) | (refine wpList_store_row rfl 28 (.tmp 6) (.tmp 120) rfl (w.heap.size + 2) #[.int .u32 num, .int .u64 l, .int .i64 a, .string s, .slice none ([] : List ByteArray).length 0] rfl rfl 28 #[.int .u32 0, .int .u64 0, .int .i64 0, .string ⟨#[]⟩, .slice none 0 0] HZ.out (by kernel_rfl) rfl (by simp [Value.oneCell']) ?_))
    refine bodyPost_ret (v := .tuple #[.agg #[.int .u32 num, .int .u64 l, .int .i64 a, .string s, .slice none ([] : List ByteArray).length 0], .int .i64 0]) (by exact results_ct (p := 6) (q := 7) rfl _ _ (w.heap.size + 2) 28 #[.int .u32 num, .int .u64 l, .int .i64 a, .string s, .slice none ([] : List ByteArray).length 0] (0, 0) _ rfl (blk_setRow HZ.out) Try.underlying28 rfl (by kernel_rfl)) rfl ?_
    rw [HF2.out hr]
    exact ⟨_, rfl, own_setRow HR.out HZ.out (by decide), setRow_below HK.out (by omega) _⟩
set_option maxHeartbeats 3000000 in
theorem apply_k2 (num lsn kind : Int) (head : ByteArray) (slots : List ByteArray) (AA : Option Addr) (cc : Nat) (i : Nat) (s o : ByteArray) (l : Int) (w : World) (hA : RdRows strC 1 w AA slots) (h64 : slots.length ≤ 64) (hE : opEs 2 i s o = 0) (hS : ∀ w', Below w.heap.size w w' → Calls Try.prog 33 #[.agg #[.int .u32 num, .int .u64 lsn, .int .i64 kind, .string head, .slice AA slots.length cc], .agg #[.int .i64 2, .int .i64 (i : Int), .string s, .string o]] w' fun e w'' => e = .returned (.int .i64 0) ∧ Below w'.heap.size w' w'') (hi : i ≤ slots.length) (hlt : slots.length < 64) (hsz : ∀ x ∈ insL slots i s, x.size ≤ 140737488351232) (hhz : (head).size ≤ 140737488351232) :
    Calls Try.prog 11 #[.agg #[.int .u32 num, .int .u64 lsn, .int .i64 kind, .string head, .slice AA slots.length cc], .agg #[.int .i64 2, .int .i64 (i : Int), .string s, .string o], .int .u64 l] w (apPost w (finR num l (kind) (head) (insL slots i s))) := by
  have HI := Lib.hid hi
  have HLt := Lib.hid hlt
  clear hi hlt
  have HSZ := Lib.hid hsz
  have HHZ := Lib.hid hhz
  clear hsz hhz
  have HA := Lib.hid hA
  have HL := Lib.hid h64
  have HS := Lib.hid hS
  have HE := Lib.hid hE
  clear hA h64 hS hE
  go_enter Try.func11, Try.ntmps11
  go_upto_region 1 with fail
  have hP : Blk (((w.alloc (.cells #[.int .u32 num, .int .u64 lsn, .int .i64 kind, .string head, .slice AA slots.length cc] 28)).alloc (.cells #[.int .i64 2, .int .i64 (i : Int), .string s, .string o] 38)).alloc (.cells #[.int .u32 0, .int .u64 0, .int .i64 0, .string ⟨#[]⟩, .slice none 0 0] 28)) w.heap.size 28 #[.int .u32 num, .int .u64 lsn, .int .i64 kind, .string head, .slice AA slots.length cc] := ((Blk.new w 28 #[.int .u32 num, .int .u64 lsn, .int .i64 kind, .string head, .slice AA slots.length cc]).alloc _).alloc _
  have hO : Blk (((w.alloc (.cells #[.int .u32 num, .int .u64 lsn, .int .i64 kind, .string head, .slice AA slots.length cc] 28)).alloc (.cells #[.int .i64 2, .int .i64 (i : Int), .string s, .string o] 38)).alloc (.cells #[.int .u32 0, .int .u64 0, .int .i64 0, .string ⟨#[]⟩, .slice none 0 0] 28)) (w.heap.size + 1) 38 #[.int .i64 2, .int .i64 (i : Int), .string s, .string o] := by
    have := (Blk.new (w.alloc (.cells #[.int .u32 num, .int .u64 lsn, .int .i64 kind, .string head, .slice AA slots.length cc] 28)) 38 #[.int .i64 2, .int .i64 (i : Int), .string s, .string o]).alloc (.cells #[.int .u32 0, .int .u64 0, .int .i64 0, .string ⟨#[]⟩, .slice none 0 0] 28)
    rwa [size_al] at this
  have hZ : Blk (((w.alloc (.cells #[.int .u32 num, .int .u64 lsn, .int .i64 kind, .string head, .slice AA slots.length cc] 28)).alloc (.cells #[.int .i64 2, .int .i64 (i : Int), .string s, .string o] 38)).alloc (.cells #[.int .u32 0, .int .u64 0, .int .i64 0, .string ⟨#[]⟩, .slice none 0 0] 28)) (w.heap.size + 2) 28 #[.int .u32 0, .int .u64 0, .int .i64 0, .string ⟨#[]⟩, .slice none 0 0] := by
    have := Blk.new ((w.alloc (.cells #[.int .u32 num, .int .u64 lsn, .int .i64 kind, .string head, .slice AA slots.length cc] 28)).alloc (.cells #[.int .i64 2, .int .i64 (i : Int), .string s, .string o] 38)) 28 #[.int .u32 0, .int .u64 0, .int .i64 0, .string ⟨#[]⟩, .slice none 0 0]
    rwa [size_al, size_al] at this
  have hK := balloc (balloc (balloc (Below.refl w.heap.size w) (.cells #[.int .u32 num, .int .u64 lsn, .int .i64 kind, .string head, .slice AA slots.length cc] 28)) (.cells #[.int .i64 2, .int .i64 (i : Int), .string s, .string o] 38)) (.cells #[.int .u32 0, .int .u64 0, .int .i64 0, .string ⟨#[]⟩, .slice none 0 0] 28)
  have hN : w.heap.size + 3 ≤ (((w.alloc (.cells #[.int .u32 num, .int .u64 lsn, .int .i64 kind, .string head, .slice AA slots.length cc] 28)).alloc (.cells #[.int .i64 2, .int .i64 (i : Int), .string s, .string o] 38)).alloc (.cells #[.int .u32 0, .int .u64 0, .int .i64 0, .string ⟨#[]⟩, .slice none 0 0] 28)).heap.size := by rw [size_al, size_al, size_al]; omega
  have HP := Lib.hid hP
  have HO := Lib.hid hO
  have HZ := Lib.hid hZ
  have HK := Lib.hid hK
  have HN := Lib.hid hN
  clear hP hO hZ hK hN
  generalize ((w.alloc (.cells #[.int .u32 num, .int .u64 lsn, .int .i64 kind, .string head, .slice AA slots.length cc] 28)).alloc (.cells #[.int .i64 2, .int .i64 (i : Int), .string s, .string o] 38)).alloc (.cells #[.int .u32 0, .int .u64 0, .int .i64 0, .string ⟨#[]⟩, .slice none 0 0] 28) = w0 at *
  go_upto_region 7 with (first | (refine wpList_load_row rfl 28 (.tmp 3) rfl w.heap.size rfl 28 #[.int .u32 num, .int .u64 lsn, .int .i64 kind, .string head, .slice AA slots.length cc] (0, 0) _ HP.out Try.underlying28 rfl (by kernel_rfl) ?_) | (refine wpList_load_row rfl 38 (.tmp 4) rfl (w.heap.size + 1) rfl 38 #[.int .i64 2, .int .i64 (i : Int), .string s, .string o] (0, 0) _ HO.out Try.underlying38 rfl (by kernel_rfl) ?_) | (go_at_call 32; refine (pcheck_str 2 i s o _).mono ?_; rintro e w1 ⟨rfl, hb1⟩; rw [HE.out]; have HP1 := Lib.hid (HP.out.step hb1); have HO1 := Lib.hid (HO.out.step hb1); have HZ1 := Lib.hid (HZ.out.step hb1); have HK1 := Lib.hid (bstep HK.out hb1); have HN1 := Lib.hid (Nat.le_trans HN.out hb1.size); clear HN HK HP HO HZ; have HP := HP1; clear HP1; have HO := HO1; clear HO1; have HZ := HZ1; clear HZ1; have HK := HK1; clear HK1; have HN := HN1; clear HN1; clear hb1) | (go_at_call 33; refine (HS.out _ HK.out).mono ?_; rintro e w1 ⟨rfl, hb1⟩; have HP1 := Lib.hid (HP.out.step hb1); have HO1 := Lib.hid (HO.out.step hb1); have HZ1 := Lib.hid (HZ.out.step hb1); have HK1 := Lib.hid (bstep HK.out hb1); have HN1 := Lib.hid (Nat.le_trans HN.out hb1.size); clear HN HK HP HO HZ; have HP := HP1; clear HP1; have HO := HO1; clear HO1; have HZ := HZ1; clear HZ1; have HK := HK1; clear HK1; have HN := HN1; clear HN1; clear hb1))
  go_upto_region 8 with (first | (refine wpList_load_row rfl 28 (.tmp 3) rfl w.heap.size rfl 28 #[.int .u32 num, .int .u64 lsn, .int .i64 kind, .string head, .slice AA slots.length cc] (0, 0) _ HP.out Try.underlying28 rfl (by kernel_rfl) ?_) | (refine wpList_store_row rfl 28 (.tmp 10) (.tmp 25) rfl w1.heap.size #[.int .u32 num, .int .u64 lsn, .int .i64 kind, .string head, .slice AA slots.length cc] rfl rfl 28 #[.int .u32 0, .int .u64 0, .int .i64 0, .string ⟨#[]⟩, .slice none 0 0] (Blk.new w1 28 #[.int .u32 0, .int .u64 0, .int .i64 0, .string ⟨#[]⟩, .slice none 0 0]) (by kernel_rfl) rfl (by simp [Value.oneCell']) ?_))
  have hX := blk_setRow (cs' := #[.int .u32 num, .int .u64 lsn, .int .i64 kind, .string head, .slice AA slots.length cc]) (Blk.new w1 28 #[.int .u32 0, .int .u64 0, .int .i64 0, .string ⟨#[]⟩, .slice none 0 0])
  have hK := setRow_below (balloc HK.out (.cells #[.int .u32 0, .int .u64 0, .int .i64 0, .string ⟨#[]⟩, .slice none 0 0] 28)) (g := w1.heap.size) HK.out.size #[.int .u32 num, .int .u64 lsn, .int .i64 kind, .string head, .slice AA slots.length cc]
  have hP := blk_setRow_far (HP.out.alloc (.cells #[.int .u32 0, .int .u64 0, .int .i64 0, .string ⟨#[]⟩, .slice none 0 0] 28)) (b := w1.heap.size) #[.int .u32 num, .int .u64 lsn, .int .i64 kind, .string head, .slice AA slots.length cc] (by have := HN.out; omega)
  have hO := blk_setRow_far (HO.out.alloc (.cells #[.int .u32 0, .int .u64 0, .int .i64 0, .string ⟨#[]⟩, .slice none 0 0] 28)) (b := w1.heap.size) #[.int .u32 num, .int .u64 lsn, .int .i64 kind, .string head, .slice AA slots.length cc] (by have := HN.out; omega)
  have hZ := blk_setRow_far (HZ.out.alloc (.cells #[.int .u32 0, .int .u64 0, .int .i64 0, .string ⟨#[]⟩, .slice none 0 0] 28)) (b := w1.heap.size) #[.int .u32 num, .int .u64 lsn, .int .i64 kind, .string head, .slice AA slots.length cc] (by have := HN.out; omega)
  have hN : w1.heap.size + 1 ≤ ((w1.alloc (.cells #[.int .u32 0, .int .u64 0, .int .i64 0, .string ⟨#[]⟩, .slice none 0 0] 28)).setRow w1.heap.size #[.int .u32 num, .int .u64 lsn, .int .i64 kind, .string head, .slice AA slots.length cc]).heap.size := by rw [size_sr, size_al]; omega
  have hN0 := HN.out
  clear HP HO HZ HK HN
  obtain ⟨x0, hx0⟩ : ∃ x, x = w1.heap.size := ⟨_, rfl⟩
  rw [← hx0] at hX hP hO hZ hK hN hN0
  simp only [← hx0]
  have hcl := clone_any (A := AA) (l := slots) cc (rows_bl1 HA.out hK) (by have := HL.out; omega)
  generalize ((w1.alloc (.cells #[.int .u32 0, .int .u64 0, .int .i64 0, .string ⟨#[]⟩, .slice none 0 0] 28)).setRow x0 #[.int .u32 num, .int .u64 lsn, .int .i64 kind, .string head, .slice AA slots.length cc]) = w2 at *
  have HX := Lib.hid hX
  have HP := Lib.hid hP
  have HO := Lib.hid hO
  have HZ := Lib.hid hZ
  have HK := Lib.hid hK
  have HN := Lib.hid hN
  have HN0 := Lib.hid hN0
  have HC := Lib.hid hcl
  have c4 := (pgCells hP).2.2.2.2
  clear hX hP hO hZ hK hN hN0 hcl hx0
  go_upto_region 9 with (go_at_call 34; refine HC.out.mono ?_; rintro e w3 ⟨v, rfl, ho1, hb1⟩; obtain ⟨AV, cv, rfl⟩ := own_sl ho1; have ho1 := own_le ho1 HK.out.size; have HP1 := Lib.hid (HP.out.step hb1); have HO1 := Lib.hid (HO.out.step hb1); have HZ1 := Lib.hid (HZ.out.step hb1); have HX1 := Lib.hid (HX.out.step hb1); have HK1 := Lib.hid (bstep HK.out hb1); have HN1 := Lib.hid (Nat.le_trans HN.out hb1.size); clear HN HK HP HO HZ HX; have HP := HP1; clear HP1; have HO := HO1; clear HO1; have HZ := HZ1; clear HZ1; have HX := HX1; clear HX1; have HK := HK1; clear HK1; have HN := HN1; clear HN1; have HR := Lib.hid ho1; have HB0 := Lib.hid HN0.out; clear hb1 ho1 HC c4; obtain ⟨cx0, cx1, cx2, cx3, cx4⟩ := pgCells HX.out; have fx1 := HX.out.frozen 1; have fx4 := HX.out.frozen 4)
  have hX : Blk ((w3.setCell ⟨x0, 4, none⟩ (.slice AV slots.length cv)).setCell ⟨x0, 1, none⟩ (.int .u64 l)) x0 28 #[.int .u32 num, .int .u64 l, .int .i64 kind, .string head, .slice AV slots.length cv] := (HX.out.set_ 4 (.slice AV slots.length cv)).set_ 1 (.int .u64 l)
  have hP := (HP.out.far (p := ⟨x0, 4, none⟩) (by have := HB0.out; show _ ≠ x0; omega) (.slice AV slots.length cv)).far (p := ⟨x0, 1, none⟩) (by have := HB0.out; show _ ≠ x0; omega) (.int .u64 l)
  have hO := (HO.out.far (p := ⟨x0, 4, none⟩) (by have := HB0.out; show _ ≠ x0; omega) (.slice AV slots.length cv)).far (p := ⟨x0, 1, none⟩) (by have := HB0.out; show _ ≠ x0; omega) (.int .u64 l)
  have hZ := (HZ.out.far (p := ⟨x0, 4, none⟩) (by have := HB0.out; show _ ≠ x0; omega) (.slice AV slots.length cv)).far (p := ⟨x0, 1, none⟩) (by have := HB0.out; show _ ≠ x0; omega) (.int .u64 l)
  have hR := own_set (b := x0) (o := 1) (u := .int .u64 l) (own_set (b := x0) (o := 4) (u := .slice AV slots.length cv) HR.out HX.out (by decide)) (HX.out.set_ 4 _) (by decide)
  have hK := bsetAt (o := 1) (bsetAt (o := 4) HK.out (b := x0) (by have := HB0.out; omega) (.slice AV slots.length cv)) (b := x0) (by have := HB0.out; omega) (.int .u64 l)
  have hN : x0 + 1 ≤ ((w3.setCell ⟨x0, 4, none⟩ (.slice AV slots.length cv)).setCell ⟨x0, 1, none⟩ (.int .u64 l)).heap.size := by simpa using HN.out
  clear HX HP HO HZ HR HK HN HA HS HE cx0 cx1 cx2 cx3 cx4 fx1 fx4
  generalize (w3.setCell ⟨x0, 4, none⟩ (.slice AV slots.length cv)).setCell ⟨x0, 1, none⟩ (.int .u64 l) = w4 at *
  have HX := Lib.hid hX
  have HP := Lib.hid hP
  have HO := Lib.hid hO
  have HZ := Lib.hid hZ
  have HR := Lib.hid hR
  have HK := Lib.hid hK
  have HN := Lib.hid hN
  obtain ⟨co0, co1, co2, co3⟩ := opCells hO
  obtain ⟨cx0, cx1, cx2, cx3, cx4⟩ := pgCells hX
  clear hX hP hO hZ hR hK hN
  have H64 : Hid ((insL slots i s).length ≤ 64) := Lib.hid (by rw [insL_len _ _ _ HI.out]; exact HLt.out)
  go_upto_region 25 with (go_at_call 35; have HXa := Lib.hid (HX.out.alloc (.cells #[.string s] 9)); have HZa := Lib.hid (HZ.out.alloc (.cells #[.string s] 9)); have HKa := Lib.hid (balloc HK.out (.cells #[.string s] 9)); have HRa := Lib.hid (HR.out.alloc (.cells #[.string s] 9)); refine (ins_own i s w4.heap.size HRa.out HKa.out.size HI.out (by have := HL.out; omega) (heap_alloc_new w4 _) (own_ne_new HR.out)).mono ?_; rintro e w5 ⟨v2, rfl, ho2, hg2, _⟩; obtain ⟨AV2, cv2, rfl⟩ := own_sl ho2; have HX1 := Lib.hid (HXa.out.grown hg2 (own_ne_blk HRa.out HXa.out (by decide)).symm); have HZ1 := Lib.hid (HZa.out.grown hg2 (own_ne_blk HRa.out HZa.out (by decide)).symm); have HK1 := Lib.hid (bgrown HKa.out hg2 (fun k e => (HRa.out.lt k e).1)); have HR1 := Lib.hid ho2; clear HX HZ HK HR HXa HZa HKa HRa hg2 ho2 co0 co1 co2 co3 cx0 cx1 cx2 cx3 cx4; have HX := HX1; have HZ := HZ1; have HK := HK1; have HR := HR1; clear HX1 HZ1 HK1 HR1; have cx4 := (pgCells HX.out).2.2.2.2; have fx4 := HX.out.frozen 4)
  have hX : Blk (w5.setCell ⟨x0, 4, none⟩ (.slice AV2 (insL slots i s).length cv2)) x0 28 #[.int .u32 num, .int .u64 l, .int .i64 kind, .string head, .slice AV2 (insL slots i s).length cv2] := HX.out.set_ 4 (.slice AV2 (insL slots i s).length cv2)
  have hZ := HZ.out.far (p := ⟨x0, 4, none⟩) (by have := HB0.out; show _ ≠ x0; omega) (.slice AV2 (insL slots i s).length cv2)
  have hK := bsetAt (o := 4) HK.out (b := x0) (by have := HB0.out; omega) (.slice AV2 (insL slots i s).length cv2)
  have hR := own_set (b := x0) (o := 4) (u := .slice AV2 (insL slots i s).length cv2) HR.out HX.out (by decide)
  clear HX HZ HK HR HP HO HN HN0 cx4 fx4
  generalize w5.setCell ⟨x0, 4, none⟩ (.slice AV2 (insL slots i s).length cv2) = w6 at *
  have HX := Lib.hid hX
  have HZ := Lib.hid hZ
  have HK := Lib.hid hK
  have HR := Lib.hid hR
  clear hX hZ hK hR
  have hrm := room_any num l kind head (insL slots i s) AV2 cv2 w6 (own_rdrows HR.out) H64.out HSZ.out HHZ.out
  have HRm := Lib.hid hrm
  clear hrm
  have hf1 : (485 : Int) - (head).size - slotsN ((insL slots i s)) < 0 → finR num l (kind) (head) ((insL slots i s)) = (0, 0, 0, ⟨#[]⟩, [], 30) := fun h => if_pos h
  have hf2 : ¬ (485 : Int) - (head).size - slotsN ((insL slots i s)) < 0 → finR num l (kind) (head) ((insL slots i s)) = (num, l, kind, head, (insL slots i s), 0) := fun h => if_neg h
  have HF1 := Lib.hid hf1
  have HF2 := Lib.hid hf2
  clear hf1 hf2
  generalize hrm : (485 : Int) - (head).size - slotsN ((insL slots i s)) = rm at *
  by_cases hr : rm < 0
  · have d5 : decide (rm < 0) = true := by simpa using hr
    go_wp2_with (first | (refine wpList_load_row rfl 28 (.tmp 10) rfl x0 rfl 28 #[.int .u32 num, .int .u64 l, .int .i64 kind, .string head, .slice AV2 (insL slots i s).length cv2] (0, 0) _ HX.out Try.underlying28 rfl (by kernel_rfl) ?_) | (go_at_call 9; refine HRm.out.mono ?_; rintro e w9 ⟨rfl, hb9⟩; have HX1 := Lib.hid (HX.out.step hb9); have HZ1 := Lib.hid (HZ.out.step hb9); have HR1 := Lib.hid (own_below HR.out hb9); have HK1 := Lib.hid (bstep HK.out hb9); clear HX HZ HR HK hb9; have HX := HX1; have HZ := HZ1; have HR := HR1; have HK := HK1; clear HX1 HZ1 HR1 HK1) | (refine wpList_store_row rfl 28 (.tmp 6) (.tmp 119) rfl (w.heap.size + 2) #[.int .u32 0, .int .u64 0, .int .i64 0, .string ⟨#[]⟩, .slice none 0 0] rfl rfl 28 #[.int .u32 0, .int .u64 0, .int .i64 0, .string ⟨#[]⟩, .slice none 0 0] HZ.out (by kernel_rfl) rfl (by simp [Value.oneCell']) ?_))
    refine bodyPost_ret (v := .tuple #[.agg #[.int .u32 0, .int .u64 0, .int .i64 0, .string ⟨#[]⟩, .slice none 0 0], .int .i64 30]) (by exact results_ct (p := 6) (q := 7) rfl _ _ (w.heap.size + 2) 28 #[.int .u32 0, .int .u64 0, .int .i64 0, .string ⟨#[]⟩, .slice none 0 0] (0, 0) _ rfl (blk_setRow HZ.out) Try.underlying28 rfl (by kernel_rfl)) rfl ?_
    rw [HF1.out hr]
    exact ⟨_, rfl, World.ownsRow_nil _ _ _ _, setRow_below HK.out (by omega) _⟩
  · have d5 : decide (rm < 0) = false := by simpa using hr
    go_wp2_with (first | (refine wpList_load_row rfl 28 (.tmp 10) rfl x0 rfl 28 #[.int .u32 num, .int .u64 l, .int .i64 kind, .string head, .slice AV2 (insL slots i s).length cv2] (0, 0) _ HX.out Try.underlying28 rfl (by kernel_rfl) ?_) | (go_at_call 9; refine HRm.out.mono ?_; rintro e w9 ⟨rfl, hb9⟩; have HX1 := Lib.hid (HX.out.step hb9); have HZ1 := Lib.hid (HZ.out.step hb9); have HR1 := Lib.hid (own_below HR.out hb9); have HK1 := Lib.hid (bstep HK.out hb9); clear HX HZ HR HK hb9; have HX := HX1; have HZ := HZ1; have HR := HR1; have HK := HK1; clear HX1 HZ1 HR1 HK1) | (refine wpList_store_row rfl 28 (.tmp 6) (.tmp 120) rfl (w.heap.size + 2) #[.int .u32 num, .int .u64 l, .int .i64 kind, .string head, .slice AV2 (insL slots i s).length cv2] rfl rfl 28 #[.int .u32 0, .int .u64 0, .int .i64 0, .string ⟨#[]⟩, .slice none 0 0] HZ.out (by kernel_rfl) rfl (by simp [Value.oneCell']) ?_))
    refine bodyPost_ret (v := .tuple #[.agg #[.int .u32 num, .int .u64 l, .int .i64 kind, .string head, .slice AV2 (insL slots i s).length cv2], .int .i64 0]) (by exact results_ct (p := 6) (q := 7) rfl _ _ (w.heap.size + 2) 28 #[.int .u32 num, .int .u64 l, .int .i64 kind, .string head, .slice AV2 (insL slots i s).length cv2] (0, 0) _ rfl (blk_setRow HZ.out) Try.underlying28 rfl (by kernel_rfl)) rfl ?_
    rw [HF2.out hr]
    exact ⟨_, rfl, own_setRow HR.out HZ.out (by decide), setRow_below HK.out (by omega) _⟩
set_option maxHeartbeats 3000000 in
theorem apply_k3 (num lsn kind : Int) (head : ByteArray) (slots : List ByteArray) (AA : Option Addr) (cc : Nat) (i : Nat) (s o : ByteArray) (l : Int) (w : World) (hA : RdRows strC 1 w AA slots) (h64 : slots.length ≤ 64) (hE : opEs 3 i s o = 0) (hS : ∀ w', Below w.heap.size w w' → Calls Try.prog 33 #[.agg #[.int .u32 num, .int .u64 lsn, .int .i64 kind, .string head, .slice AA slots.length cc], .agg #[.int .i64 3, .int .i64 (i : Int), .string s, .string o]] w' fun e w'' => e = .returned (.int .i64 0) ∧ Below w'.heap.size w' w'') (hi : i < slots.length) (hsz : ∀ x ∈ slots.eraseIdx i, x.size ≤ 140737488351232) (hhz : (head).size ≤ 140737488351232) :
    Calls Try.prog 11 #[.agg #[.int .u32 num, .int .u64 lsn, .int .i64 kind, .string head, .slice AA slots.length cc], .agg #[.int .i64 3, .int .i64 (i : Int), .string s, .string o], .int .u64 l] w (apPost w (finR num l (kind) (head) (slots.eraseIdx i))) := by
  have HI := Lib.hid hi
  clear hi
  have HSZ := Lib.hid hsz
  have HHZ := Lib.hid hhz
  clear hsz hhz
  have HA := Lib.hid hA
  have HL := Lib.hid h64
  have HS := Lib.hid hS
  have HE := Lib.hid hE
  clear hA h64 hS hE
  go_enter Try.func11, Try.ntmps11
  go_upto_region 1 with fail
  have hP : Blk (((w.alloc (.cells #[.int .u32 num, .int .u64 lsn, .int .i64 kind, .string head, .slice AA slots.length cc] 28)).alloc (.cells #[.int .i64 3, .int .i64 (i : Int), .string s, .string o] 38)).alloc (.cells #[.int .u32 0, .int .u64 0, .int .i64 0, .string ⟨#[]⟩, .slice none 0 0] 28)) w.heap.size 28 #[.int .u32 num, .int .u64 lsn, .int .i64 kind, .string head, .slice AA slots.length cc] := ((Blk.new w 28 #[.int .u32 num, .int .u64 lsn, .int .i64 kind, .string head, .slice AA slots.length cc]).alloc _).alloc _
  have hO : Blk (((w.alloc (.cells #[.int .u32 num, .int .u64 lsn, .int .i64 kind, .string head, .slice AA slots.length cc] 28)).alloc (.cells #[.int .i64 3, .int .i64 (i : Int), .string s, .string o] 38)).alloc (.cells #[.int .u32 0, .int .u64 0, .int .i64 0, .string ⟨#[]⟩, .slice none 0 0] 28)) (w.heap.size + 1) 38 #[.int .i64 3, .int .i64 (i : Int), .string s, .string o] := by
    have := (Blk.new (w.alloc (.cells #[.int .u32 num, .int .u64 lsn, .int .i64 kind, .string head, .slice AA slots.length cc] 28)) 38 #[.int .i64 3, .int .i64 (i : Int), .string s, .string o]).alloc (.cells #[.int .u32 0, .int .u64 0, .int .i64 0, .string ⟨#[]⟩, .slice none 0 0] 28)
    rwa [size_al] at this
  have hZ : Blk (((w.alloc (.cells #[.int .u32 num, .int .u64 lsn, .int .i64 kind, .string head, .slice AA slots.length cc] 28)).alloc (.cells #[.int .i64 3, .int .i64 (i : Int), .string s, .string o] 38)).alloc (.cells #[.int .u32 0, .int .u64 0, .int .i64 0, .string ⟨#[]⟩, .slice none 0 0] 28)) (w.heap.size + 2) 28 #[.int .u32 0, .int .u64 0, .int .i64 0, .string ⟨#[]⟩, .slice none 0 0] := by
    have := Blk.new ((w.alloc (.cells #[.int .u32 num, .int .u64 lsn, .int .i64 kind, .string head, .slice AA slots.length cc] 28)).alloc (.cells #[.int .i64 3, .int .i64 (i : Int), .string s, .string o] 38)) 28 #[.int .u32 0, .int .u64 0, .int .i64 0, .string ⟨#[]⟩, .slice none 0 0]
    rwa [size_al, size_al] at this
  have hK := balloc (balloc (balloc (Below.refl w.heap.size w) (.cells #[.int .u32 num, .int .u64 lsn, .int .i64 kind, .string head, .slice AA slots.length cc] 28)) (.cells #[.int .i64 3, .int .i64 (i : Int), .string s, .string o] 38)) (.cells #[.int .u32 0, .int .u64 0, .int .i64 0, .string ⟨#[]⟩, .slice none 0 0] 28)
  have hN : w.heap.size + 3 ≤ (((w.alloc (.cells #[.int .u32 num, .int .u64 lsn, .int .i64 kind, .string head, .slice AA slots.length cc] 28)).alloc (.cells #[.int .i64 3, .int .i64 (i : Int), .string s, .string o] 38)).alloc (.cells #[.int .u32 0, .int .u64 0, .int .i64 0, .string ⟨#[]⟩, .slice none 0 0] 28)).heap.size := by rw [size_al, size_al, size_al]; omega
  have HP := Lib.hid hP
  have HO := Lib.hid hO
  have HZ := Lib.hid hZ
  have HK := Lib.hid hK
  have HN := Lib.hid hN
  clear hP hO hZ hK hN
  generalize ((w.alloc (.cells #[.int .u32 num, .int .u64 lsn, .int .i64 kind, .string head, .slice AA slots.length cc] 28)).alloc (.cells #[.int .i64 3, .int .i64 (i : Int), .string s, .string o] 38)).alloc (.cells #[.int .u32 0, .int .u64 0, .int .i64 0, .string ⟨#[]⟩, .slice none 0 0] 28) = w0 at *
  go_upto_region 7 with (first | (refine wpList_load_row rfl 28 (.tmp 3) rfl w.heap.size rfl 28 #[.int .u32 num, .int .u64 lsn, .int .i64 kind, .string head, .slice AA slots.length cc] (0, 0) _ HP.out Try.underlying28 rfl (by kernel_rfl) ?_) | (refine wpList_load_row rfl 38 (.tmp 4) rfl (w.heap.size + 1) rfl 38 #[.int .i64 3, .int .i64 (i : Int), .string s, .string o] (0, 0) _ HO.out Try.underlying38 rfl (by kernel_rfl) ?_) | (go_at_call 32; refine (pcheck_str 3 i s o _).mono ?_; rintro e w1 ⟨rfl, hb1⟩; rw [HE.out]; have HP1 := Lib.hid (HP.out.step hb1); have HO1 := Lib.hid (HO.out.step hb1); have HZ1 := Lib.hid (HZ.out.step hb1); have HK1 := Lib.hid (bstep HK.out hb1); have HN1 := Lib.hid (Nat.le_trans HN.out hb1.size); clear HN HK HP HO HZ; have HP := HP1; clear HP1; have HO := HO1; clear HO1; have HZ := HZ1; clear HZ1; have HK := HK1; clear HK1; have HN := HN1; clear HN1; clear hb1) | (go_at_call 33; refine (HS.out _ HK.out).mono ?_; rintro e w1 ⟨rfl, hb1⟩; have HP1 := Lib.hid (HP.out.step hb1); have HO1 := Lib.hid (HO.out.step hb1); have HZ1 := Lib.hid (HZ.out.step hb1); have HK1 := Lib.hid (bstep HK.out hb1); have HN1 := Lib.hid (Nat.le_trans HN.out hb1.size); clear HN HK HP HO HZ; have HP := HP1; clear HP1; have HO := HO1; clear HO1; have HZ := HZ1; clear HZ1; have HK := HK1; clear HK1; have HN := HN1; clear HN1; clear hb1))
  go_upto_region 8 with (first | (refine wpList_load_row rfl 28 (.tmp 3) rfl w.heap.size rfl 28 #[.int .u32 num, .int .u64 lsn, .int .i64 kind, .string head, .slice AA slots.length cc] (0, 0) _ HP.out Try.underlying28 rfl (by kernel_rfl) ?_) | (refine wpList_store_row rfl 28 (.tmp 10) (.tmp 25) rfl w1.heap.size #[.int .u32 num, .int .u64 lsn, .int .i64 kind, .string head, .slice AA slots.length cc] rfl rfl 28 #[.int .u32 0, .int .u64 0, .int .i64 0, .string ⟨#[]⟩, .slice none 0 0] (Blk.new w1 28 #[.int .u32 0, .int .u64 0, .int .i64 0, .string ⟨#[]⟩, .slice none 0 0]) (by kernel_rfl) rfl (by simp [Value.oneCell']) ?_))
  have hX := blk_setRow (cs' := #[.int .u32 num, .int .u64 lsn, .int .i64 kind, .string head, .slice AA slots.length cc]) (Blk.new w1 28 #[.int .u32 0, .int .u64 0, .int .i64 0, .string ⟨#[]⟩, .slice none 0 0])
  have hK := setRow_below (balloc HK.out (.cells #[.int .u32 0, .int .u64 0, .int .i64 0, .string ⟨#[]⟩, .slice none 0 0] 28)) (g := w1.heap.size) HK.out.size #[.int .u32 num, .int .u64 lsn, .int .i64 kind, .string head, .slice AA slots.length cc]
  have hP := blk_setRow_far (HP.out.alloc (.cells #[.int .u32 0, .int .u64 0, .int .i64 0, .string ⟨#[]⟩, .slice none 0 0] 28)) (b := w1.heap.size) #[.int .u32 num, .int .u64 lsn, .int .i64 kind, .string head, .slice AA slots.length cc] (by have := HN.out; omega)
  have hO := blk_setRow_far (HO.out.alloc (.cells #[.int .u32 0, .int .u64 0, .int .i64 0, .string ⟨#[]⟩, .slice none 0 0] 28)) (b := w1.heap.size) #[.int .u32 num, .int .u64 lsn, .int .i64 kind, .string head, .slice AA slots.length cc] (by have := HN.out; omega)
  have hZ := blk_setRow_far (HZ.out.alloc (.cells #[.int .u32 0, .int .u64 0, .int .i64 0, .string ⟨#[]⟩, .slice none 0 0] 28)) (b := w1.heap.size) #[.int .u32 num, .int .u64 lsn, .int .i64 kind, .string head, .slice AA slots.length cc] (by have := HN.out; omega)
  have hN : w1.heap.size + 1 ≤ ((w1.alloc (.cells #[.int .u32 0, .int .u64 0, .int .i64 0, .string ⟨#[]⟩, .slice none 0 0] 28)).setRow w1.heap.size #[.int .u32 num, .int .u64 lsn, .int .i64 kind, .string head, .slice AA slots.length cc]).heap.size := by rw [size_sr, size_al]; omega
  have hN0 := HN.out
  clear HP HO HZ HK HN
  obtain ⟨x0, hx0⟩ : ∃ x, x = w1.heap.size := ⟨_, rfl⟩
  rw [← hx0] at hX hP hO hZ hK hN hN0
  simp only [← hx0]
  have hcl := clone_any (A := AA) (l := slots) cc (rows_bl1 HA.out hK) (by have := HL.out; omega)
  generalize ((w1.alloc (.cells #[.int .u32 0, .int .u64 0, .int .i64 0, .string ⟨#[]⟩, .slice none 0 0] 28)).setRow x0 #[.int .u32 num, .int .u64 lsn, .int .i64 kind, .string head, .slice AA slots.length cc]) = w2 at *
  have HX := Lib.hid hX
  have HP := Lib.hid hP
  have HO := Lib.hid hO
  have HZ := Lib.hid hZ
  have HK := Lib.hid hK
  have HN := Lib.hid hN
  have HN0 := Lib.hid hN0
  have HC := Lib.hid hcl
  have c4 := (pgCells hP).2.2.2.2
  clear hX hP hO hZ hK hN hN0 hcl hx0
  go_upto_region 9 with (go_at_call 34; refine HC.out.mono ?_; rintro e w3 ⟨v, rfl, ho1, hb1⟩; obtain ⟨AV, cv, rfl⟩ := own_sl ho1; have ho1 := own_le ho1 HK.out.size; have HP1 := Lib.hid (HP.out.step hb1); have HO1 := Lib.hid (HO.out.step hb1); have HZ1 := Lib.hid (HZ.out.step hb1); have HX1 := Lib.hid (HX.out.step hb1); have HK1 := Lib.hid (bstep HK.out hb1); have HN1 := Lib.hid (Nat.le_trans HN.out hb1.size); clear HN HK HP HO HZ HX; have HP := HP1; clear HP1; have HO := HO1; clear HO1; have HZ := HZ1; clear HZ1; have HX := HX1; clear HX1; have HK := HK1; clear HK1; have HN := HN1; clear HN1; have HR := Lib.hid ho1; have HB0 := Lib.hid HN0.out; clear hb1 ho1 HC c4; obtain ⟨cx0, cx1, cx2, cx3, cx4⟩ := pgCells HX.out; have fx1 := HX.out.frozen 1; have fx4 := HX.out.frozen 4)
  have hX : Blk ((w3.setCell ⟨x0, 4, none⟩ (.slice AV slots.length cv)).setCell ⟨x0, 1, none⟩ (.int .u64 l)) x0 28 #[.int .u32 num, .int .u64 l, .int .i64 kind, .string head, .slice AV slots.length cv] := (HX.out.set_ 4 (.slice AV slots.length cv)).set_ 1 (.int .u64 l)
  have hP := (HP.out.far (p := ⟨x0, 4, none⟩) (by have := HB0.out; show _ ≠ x0; omega) (.slice AV slots.length cv)).far (p := ⟨x0, 1, none⟩) (by have := HB0.out; show _ ≠ x0; omega) (.int .u64 l)
  have hO := (HO.out.far (p := ⟨x0, 4, none⟩) (by have := HB0.out; show _ ≠ x0; omega) (.slice AV slots.length cv)).far (p := ⟨x0, 1, none⟩) (by have := HB0.out; show _ ≠ x0; omega) (.int .u64 l)
  have hZ := (HZ.out.far (p := ⟨x0, 4, none⟩) (by have := HB0.out; show _ ≠ x0; omega) (.slice AV slots.length cv)).far (p := ⟨x0, 1, none⟩) (by have := HB0.out; show _ ≠ x0; omega) (.int .u64 l)
  have hR := own_set (b := x0) (o := 1) (u := .int .u64 l) (own_set (b := x0) (o := 4) (u := .slice AV slots.length cv) HR.out HX.out (by decide)) (HX.out.set_ 4 _) (by decide)
  have hK := bsetAt (o := 1) (bsetAt (o := 4) HK.out (b := x0) (by have := HB0.out; omega) (.slice AV slots.length cv)) (b := x0) (by have := HB0.out; omega) (.int .u64 l)
  have hN : x0 + 1 ≤ ((w3.setCell ⟨x0, 4, none⟩ (.slice AV slots.length cv)).setCell ⟨x0, 1, none⟩ (.int .u64 l)).heap.size := by simpa using HN.out
  clear HX HP HO HZ HR HK HN HA HS HE cx0 cx1 cx2 cx3 cx4 fx1 fx4
  generalize (w3.setCell ⟨x0, 4, none⟩ (.slice AV slots.length cv)).setCell ⟨x0, 1, none⟩ (.int .u64 l) = w4 at *
  have HX := Lib.hid hX
  have HP := Lib.hid hP
  have HO := Lib.hid hO
  have HZ := Lib.hid hZ
  have HR := Lib.hid hR
  have HK := Lib.hid hK
  have HN := Lib.hid hN
  obtain ⟨co0, co1, co2, co3⟩ := opCells hO
  obtain ⟨cx0, cx1, cx2, cx3, cx4⟩ := pgCells hX
  clear hX hP hO hZ hR hK hN
  have H64 : Hid ((slots.eraseIdx i).length ≤ 64) := Lib.hid (by rw [List.length_eraseIdx_of_lt HI.out]; have := HL.out; omega)
  have hi64 : (i : Int) < 64 := by have := HL.out; have := HI.out; omega
  go_upto_region 25 with (go_at_call 36; have HXa := HX; have HZa := HZ; have HKa := HK; have HRa := HR; refine (del_own i HRa.out HI.out).mono ?_; rintro e w5 ⟨v2, rfl, ho2, hg2, _⟩; obtain ⟨AV2, cv2, rfl⟩ := own_sl ho2; have HX1 := Lib.hid (HXa.out.grown hg2 (own_ne_blk HRa.out HXa.out (by decide)).symm); have HZ1 := Lib.hid (HZa.out.grown hg2 (own_ne_blk HRa.out HZa.out (by decide)).symm); have HK1 := Lib.hid (bgrown HKa.out hg2 (fun k e => (HRa.out.lt k e).1)); have HR1 := Lib.hid ho2; clear HX HZ HK HR HXa HZa HKa HRa hg2 ho2 co0 co1 co2 co3 cx0 cx1 cx2 cx3 cx4; have HX := HX1; have HZ := HZ1; have HK := HK1; have HR := HR1; clear HX1 HZ1 HK1 HR1; have cx4 := (pgCells HX.out).2.2.2.2; have fx4 := HX.out.frozen 4)
  have hX : Blk (w5.setCell ⟨x0, 4, none⟩ (.slice AV2 (slots.eraseIdx i).length cv2)) x0 28 #[.int .u32 num, .int .u64 l, .int .i64 kind, .string head, .slice AV2 (slots.eraseIdx i).length cv2] := HX.out.set_ 4 (.slice AV2 (slots.eraseIdx i).length cv2)
  have hZ := HZ.out.far (p := ⟨x0, 4, none⟩) (by have := HB0.out; show _ ≠ x0; omega) (.slice AV2 (slots.eraseIdx i).length cv2)
  have hK := bsetAt (o := 4) HK.out (b := x0) (by have := HB0.out; omega) (.slice AV2 (slots.eraseIdx i).length cv2)
  have hR := own_set (b := x0) (o := 4) (u := .slice AV2 (slots.eraseIdx i).length cv2) HR.out HX.out (by decide)
  clear HX HZ HK HR HP HO HN HN0 cx4 fx4
  generalize w5.setCell ⟨x0, 4, none⟩ (.slice AV2 (slots.eraseIdx i).length cv2) = w6 at *
  have HX := Lib.hid hX
  have HZ := Lib.hid hZ
  have HK := Lib.hid hK
  have HR := Lib.hid hR
  clear hX hZ hK hR
  have hrm := room_any num l kind head (slots.eraseIdx i) AV2 cv2 w6 (own_rdrows HR.out) H64.out HSZ.out HHZ.out
  have HRm := Lib.hid hrm
  clear hrm
  have hf1 : (485 : Int) - (head).size - slotsN ((slots.eraseIdx i)) < 0 → finR num l (kind) (head) ((slots.eraseIdx i)) = (0, 0, 0, ⟨#[]⟩, [], 30) := fun h => if_pos h
  have hf2 : ¬ (485 : Int) - (head).size - slotsN ((slots.eraseIdx i)) < 0 → finR num l (kind) (head) ((slots.eraseIdx i)) = (num, l, kind, head, (slots.eraseIdx i), 0) := fun h => if_neg h
  have HF1 := Lib.hid hf1
  have HF2 := Lib.hid hf2
  clear hf1 hf2
  generalize hrm : (485 : Int) - (head).size - slotsN ((slots.eraseIdx i)) = rm at *
  by_cases hr : rm < 0
  · have d5 : decide (rm < 0) = true := by simpa using hr
    go_wp2_with (first | (refine wpList_load_row rfl 28 (.tmp 10) rfl x0 rfl 28 #[.int .u32 num, .int .u64 l, .int .i64 kind, .string head, .slice AV2 (slots.eraseIdx i).length cv2] (0, 0) _ HX.out Try.underlying28 rfl (by kernel_rfl) ?_) | (go_at_call 9; refine HRm.out.mono ?_; rintro e w9 ⟨rfl, hb9⟩; have HX1 := Lib.hid (HX.out.step hb9); have HZ1 := Lib.hid (HZ.out.step hb9); have HR1 := Lib.hid (own_below HR.out hb9); have HK1 := Lib.hid (bstep HK.out hb9); clear HX HZ HR HK hb9; have HX := HX1; have HZ := HZ1; have HR := HR1; have HK := HK1; clear HX1 HZ1 HR1 HK1) | (refine wpList_store_row rfl 28 (.tmp 6) (.tmp 119) rfl (w.heap.size + 2) #[.int .u32 0, .int .u64 0, .int .i64 0, .string ⟨#[]⟩, .slice none 0 0] rfl rfl 28 #[.int .u32 0, .int .u64 0, .int .i64 0, .string ⟨#[]⟩, .slice none 0 0] HZ.out (by kernel_rfl) rfl (by simp [Value.oneCell']) ?_))
    refine bodyPost_ret (v := .tuple #[.agg #[.int .u32 0, .int .u64 0, .int .i64 0, .string ⟨#[]⟩, .slice none 0 0], .int .i64 30]) (by exact results_ct (p := 6) (q := 7) rfl _ _ (w.heap.size + 2) 28 #[.int .u32 0, .int .u64 0, .int .i64 0, .string ⟨#[]⟩, .slice none 0 0] (0, 0) _ rfl (blk_setRow HZ.out) Try.underlying28 rfl (by kernel_rfl)) rfl ?_
    rw [HF1.out hr]
    exact ⟨_, rfl, World.ownsRow_nil _ _ _ _, setRow_below HK.out (by omega) _⟩
  · have d5 : decide (rm < 0) = false := by simpa using hr
    go_wp2_with (first | (refine wpList_load_row rfl 28 (.tmp 10) rfl x0 rfl 28 #[.int .u32 num, .int .u64 l, .int .i64 kind, .string head, .slice AV2 (slots.eraseIdx i).length cv2] (0, 0) _ HX.out Try.underlying28 rfl (by kernel_rfl) ?_) | (go_at_call 9; refine HRm.out.mono ?_; rintro e w9 ⟨rfl, hb9⟩; have HX1 := Lib.hid (HX.out.step hb9); have HZ1 := Lib.hid (HZ.out.step hb9); have HR1 := Lib.hid (own_below HR.out hb9); have HK1 := Lib.hid (bstep HK.out hb9); clear HX HZ HR HK hb9; have HX := HX1; have HZ := HZ1; have HR := HR1; have HK := HK1; clear HX1 HZ1 HR1 HK1) | (refine wpList_store_row rfl 28 (.tmp 6) (.tmp 120) rfl (w.heap.size + 2) #[.int .u32 num, .int .u64 l, .int .i64 kind, .string head, .slice AV2 (slots.eraseIdx i).length cv2] rfl rfl 28 #[.int .u32 0, .int .u64 0, .int .i64 0, .string ⟨#[]⟩, .slice none 0 0] HZ.out (by kernel_rfl) rfl (by simp [Value.oneCell']) ?_))
    refine bodyPost_ret (v := .tuple #[.agg #[.int .u32 num, .int .u64 l, .int .i64 kind, .string head, .slice AV2 (slots.eraseIdx i).length cv2], .int .i64 0]) (by exact results_ct (p := 6) (q := 7) rfl _ _ (w.heap.size + 2) 28 #[.int .u32 num, .int .u64 l, .int .i64 kind, .string head, .slice AV2 (slots.eraseIdx i).length cv2] (0, 0) _ rfl (blk_setRow HZ.out) Try.underlying28 rfl (by kernel_rfl)) rfl ?_
    rw [HF2.out hr]
    exact ⟨_, rfl, own_setRow HR.out HZ.out (by decide), setRow_below HK.out (by omega) _⟩
set_option maxHeartbeats 3000000 in
theorem apply_k4 (num lsn kind : Int) (head : ByteArray) (slots : List ByteArray) (AA : Option Addr) (cc : Nat) (i : Nat) (s o : ByteArray) (l : Int) (w : World) (hA : RdRows strC 1 w AA slots) (h64 : slots.length ≤ 64) (hE : opEs 4 i s o = 0) (hS : ∀ w', Below w.heap.size w w' → Calls Try.prog 33 #[.agg #[.int .u32 num, .int .u64 lsn, .int .i64 kind, .string head, .slice AA slots.length cc], .agg #[.int .i64 4, .int .i64 (i : Int), .string s, .string o]] w' fun e w'' => e = .returned (.int .i64 0) ∧ Below w'.heap.size w' w'') (sl : List ByteArray) (hsl : sl = slots.set i s) (hi : i < slots.length) (hsz : ∀ x ∈ sl, x.size ≤ 140737488351232) (hhz : (head).size ≤ 140737488351232) :
    Calls Try.prog 11 #[.agg #[.int .u32 num, .int .u64 lsn, .int .i64 kind, .string head, .slice AA slots.length cc], .agg #[.int .i64 4, .int .i64 (i : Int), .string s, .string o], .int .u64 l] w (apPost w (finR num l (kind) (head) (sl))) := by
  have HI := Lib.hid hi
  have HSl := Lib.hid hsl
  clear hi hsl
  have HSZ := Lib.hid hsz
  have HHZ := Lib.hid hhz
  clear hsz hhz
  have HA := Lib.hid hA
  have HL := Lib.hid h64
  have HS := Lib.hid hS
  have HE := Lib.hid hE
  clear hA h64 hS hE
  go_enter Try.func11, Try.ntmps11
  go_upto_region 1 with fail
  have hP : Blk (((w.alloc (.cells #[.int .u32 num, .int .u64 lsn, .int .i64 kind, .string head, .slice AA slots.length cc] 28)).alloc (.cells #[.int .i64 4, .int .i64 (i : Int), .string s, .string o] 38)).alloc (.cells #[.int .u32 0, .int .u64 0, .int .i64 0, .string ⟨#[]⟩, .slice none 0 0] 28)) w.heap.size 28 #[.int .u32 num, .int .u64 lsn, .int .i64 kind, .string head, .slice AA slots.length cc] := ((Blk.new w 28 #[.int .u32 num, .int .u64 lsn, .int .i64 kind, .string head, .slice AA slots.length cc]).alloc _).alloc _
  have hO : Blk (((w.alloc (.cells #[.int .u32 num, .int .u64 lsn, .int .i64 kind, .string head, .slice AA slots.length cc] 28)).alloc (.cells #[.int .i64 4, .int .i64 (i : Int), .string s, .string o] 38)).alloc (.cells #[.int .u32 0, .int .u64 0, .int .i64 0, .string ⟨#[]⟩, .slice none 0 0] 28)) (w.heap.size + 1) 38 #[.int .i64 4, .int .i64 (i : Int), .string s, .string o] := by
    have := (Blk.new (w.alloc (.cells #[.int .u32 num, .int .u64 lsn, .int .i64 kind, .string head, .slice AA slots.length cc] 28)) 38 #[.int .i64 4, .int .i64 (i : Int), .string s, .string o]).alloc (.cells #[.int .u32 0, .int .u64 0, .int .i64 0, .string ⟨#[]⟩, .slice none 0 0] 28)
    rwa [size_al] at this
  have hZ : Blk (((w.alloc (.cells #[.int .u32 num, .int .u64 lsn, .int .i64 kind, .string head, .slice AA slots.length cc] 28)).alloc (.cells #[.int .i64 4, .int .i64 (i : Int), .string s, .string o] 38)).alloc (.cells #[.int .u32 0, .int .u64 0, .int .i64 0, .string ⟨#[]⟩, .slice none 0 0] 28)) (w.heap.size + 2) 28 #[.int .u32 0, .int .u64 0, .int .i64 0, .string ⟨#[]⟩, .slice none 0 0] := by
    have := Blk.new ((w.alloc (.cells #[.int .u32 num, .int .u64 lsn, .int .i64 kind, .string head, .slice AA slots.length cc] 28)).alloc (.cells #[.int .i64 4, .int .i64 (i : Int), .string s, .string o] 38)) 28 #[.int .u32 0, .int .u64 0, .int .i64 0, .string ⟨#[]⟩, .slice none 0 0]
    rwa [size_al, size_al] at this
  have hK := balloc (balloc (balloc (Below.refl w.heap.size w) (.cells #[.int .u32 num, .int .u64 lsn, .int .i64 kind, .string head, .slice AA slots.length cc] 28)) (.cells #[.int .i64 4, .int .i64 (i : Int), .string s, .string o] 38)) (.cells #[.int .u32 0, .int .u64 0, .int .i64 0, .string ⟨#[]⟩, .slice none 0 0] 28)
  have hN : w.heap.size + 3 ≤ (((w.alloc (.cells #[.int .u32 num, .int .u64 lsn, .int .i64 kind, .string head, .slice AA slots.length cc] 28)).alloc (.cells #[.int .i64 4, .int .i64 (i : Int), .string s, .string o] 38)).alloc (.cells #[.int .u32 0, .int .u64 0, .int .i64 0, .string ⟨#[]⟩, .slice none 0 0] 28)).heap.size := by rw [size_al, size_al, size_al]; omega
  have HP := Lib.hid hP
  have HO := Lib.hid hO
  have HZ := Lib.hid hZ
  have HK := Lib.hid hK
  have HN := Lib.hid hN
  clear hP hO hZ hK hN
  generalize ((w.alloc (.cells #[.int .u32 num, .int .u64 lsn, .int .i64 kind, .string head, .slice AA slots.length cc] 28)).alloc (.cells #[.int .i64 4, .int .i64 (i : Int), .string s, .string o] 38)).alloc (.cells #[.int .u32 0, .int .u64 0, .int .i64 0, .string ⟨#[]⟩, .slice none 0 0] 28) = w0 at *
  go_upto_region 7 with (first | (refine wpList_load_row rfl 28 (.tmp 3) rfl w.heap.size rfl 28 #[.int .u32 num, .int .u64 lsn, .int .i64 kind, .string head, .slice AA slots.length cc] (0, 0) _ HP.out Try.underlying28 rfl (by kernel_rfl) ?_) | (refine wpList_load_row rfl 38 (.tmp 4) rfl (w.heap.size + 1) rfl 38 #[.int .i64 4, .int .i64 (i : Int), .string s, .string o] (0, 0) _ HO.out Try.underlying38 rfl (by kernel_rfl) ?_) | (go_at_call 32; refine (pcheck_str 4 i s o _).mono ?_; rintro e w1 ⟨rfl, hb1⟩; rw [HE.out]; have HP1 := Lib.hid (HP.out.step hb1); have HO1 := Lib.hid (HO.out.step hb1); have HZ1 := Lib.hid (HZ.out.step hb1); have HK1 := Lib.hid (bstep HK.out hb1); have HN1 := Lib.hid (Nat.le_trans HN.out hb1.size); clear HN HK HP HO HZ; have HP := HP1; clear HP1; have HO := HO1; clear HO1; have HZ := HZ1; clear HZ1; have HK := HK1; clear HK1; have HN := HN1; clear HN1; clear hb1) | (go_at_call 33; refine (HS.out _ HK.out).mono ?_; rintro e w1 ⟨rfl, hb1⟩; have HP1 := Lib.hid (HP.out.step hb1); have HO1 := Lib.hid (HO.out.step hb1); have HZ1 := Lib.hid (HZ.out.step hb1); have HK1 := Lib.hid (bstep HK.out hb1); have HN1 := Lib.hid (Nat.le_trans HN.out hb1.size); clear HN HK HP HO HZ; have HP := HP1; clear HP1; have HO := HO1; clear HO1; have HZ := HZ1; clear HZ1; have HK := HK1; clear HK1; have HN := HN1; clear HN1; clear hb1))
  go_upto_region 8 with (first | (refine wpList_load_row rfl 28 (.tmp 3) rfl w.heap.size rfl 28 #[.int .u32 num, .int .u64 lsn, .int .i64 kind, .string head, .slice AA slots.length cc] (0, 0) _ HP.out Try.underlying28 rfl (by kernel_rfl) ?_) | (refine wpList_store_row rfl 28 (.tmp 10) (.tmp 25) rfl w1.heap.size #[.int .u32 num, .int .u64 lsn, .int .i64 kind, .string head, .slice AA slots.length cc] rfl rfl 28 #[.int .u32 0, .int .u64 0, .int .i64 0, .string ⟨#[]⟩, .slice none 0 0] (Blk.new w1 28 #[.int .u32 0, .int .u64 0, .int .i64 0, .string ⟨#[]⟩, .slice none 0 0]) (by kernel_rfl) rfl (by simp [Value.oneCell']) ?_))
  have hX := blk_setRow (cs' := #[.int .u32 num, .int .u64 lsn, .int .i64 kind, .string head, .slice AA slots.length cc]) (Blk.new w1 28 #[.int .u32 0, .int .u64 0, .int .i64 0, .string ⟨#[]⟩, .slice none 0 0])
  have hK := setRow_below (balloc HK.out (.cells #[.int .u32 0, .int .u64 0, .int .i64 0, .string ⟨#[]⟩, .slice none 0 0] 28)) (g := w1.heap.size) HK.out.size #[.int .u32 num, .int .u64 lsn, .int .i64 kind, .string head, .slice AA slots.length cc]
  have hP := blk_setRow_far (HP.out.alloc (.cells #[.int .u32 0, .int .u64 0, .int .i64 0, .string ⟨#[]⟩, .slice none 0 0] 28)) (b := w1.heap.size) #[.int .u32 num, .int .u64 lsn, .int .i64 kind, .string head, .slice AA slots.length cc] (by have := HN.out; omega)
  have hO := blk_setRow_far (HO.out.alloc (.cells #[.int .u32 0, .int .u64 0, .int .i64 0, .string ⟨#[]⟩, .slice none 0 0] 28)) (b := w1.heap.size) #[.int .u32 num, .int .u64 lsn, .int .i64 kind, .string head, .slice AA slots.length cc] (by have := HN.out; omega)
  have hZ := blk_setRow_far (HZ.out.alloc (.cells #[.int .u32 0, .int .u64 0, .int .i64 0, .string ⟨#[]⟩, .slice none 0 0] 28)) (b := w1.heap.size) #[.int .u32 num, .int .u64 lsn, .int .i64 kind, .string head, .slice AA slots.length cc] (by have := HN.out; omega)
  have hN : w1.heap.size + 1 ≤ ((w1.alloc (.cells #[.int .u32 0, .int .u64 0, .int .i64 0, .string ⟨#[]⟩, .slice none 0 0] 28)).setRow w1.heap.size #[.int .u32 num, .int .u64 lsn, .int .i64 kind, .string head, .slice AA slots.length cc]).heap.size := by rw [size_sr, size_al]; omega
  have hN0 := HN.out
  clear HP HO HZ HK HN
  obtain ⟨x0, hx0⟩ : ∃ x, x = w1.heap.size := ⟨_, rfl⟩
  rw [← hx0] at hX hP hO hZ hK hN hN0
  simp only [← hx0]
  have hcl := clone_any (A := AA) (l := slots) cc (rows_bl1 HA.out hK) (by have := HL.out; omega)
  generalize ((w1.alloc (.cells #[.int .u32 0, .int .u64 0, .int .i64 0, .string ⟨#[]⟩, .slice none 0 0] 28)).setRow x0 #[.int .u32 num, .int .u64 lsn, .int .i64 kind, .string head, .slice AA slots.length cc]) = w2 at *
  have HX := Lib.hid hX
  have HP := Lib.hid hP
  have HO := Lib.hid hO
  have HZ := Lib.hid hZ
  have HK := Lib.hid hK
  have HN := Lib.hid hN
  have HN0 := Lib.hid hN0
  have HC := Lib.hid hcl
  have c4 := (pgCells hP).2.2.2.2
  clear hX hP hO hZ hK hN hN0 hcl hx0
  go_upto_region 9 with (go_at_call 34; refine HC.out.mono ?_; rintro e w3 ⟨v, rfl, ho1, hb1⟩; obtain ⟨AV, cv, rfl⟩ := own_sl ho1; have ho1 := own_le ho1 HK.out.size; have HP1 := Lib.hid (HP.out.step hb1); have HO1 := Lib.hid (HO.out.step hb1); have HZ1 := Lib.hid (HZ.out.step hb1); have HX1 := Lib.hid (HX.out.step hb1); have HK1 := Lib.hid (bstep HK.out hb1); have HN1 := Lib.hid (Nat.le_trans HN.out hb1.size); clear HN HK HP HO HZ HX; have HP := HP1; clear HP1; have HO := HO1; clear HO1; have HZ := HZ1; clear HZ1; have HX := HX1; clear HX1; have HK := HK1; clear HK1; have HN := HN1; clear HN1; have HR := Lib.hid ho1; have HB0 := Lib.hid HN0.out; clear hb1 ho1 HC c4; obtain ⟨cx0, cx1, cx2, cx3, cx4⟩ := pgCells HX.out; have fx1 := HX.out.frozen 1; have fx4 := HX.out.frozen 4)
  have hX : Blk ((w3.setCell ⟨x0, 4, none⟩ (.slice AV slots.length cv)).setCell ⟨x0, 1, none⟩ (.int .u64 l)) x0 28 #[.int .u32 num, .int .u64 l, .int .i64 kind, .string head, .slice AV slots.length cv] := (HX.out.set_ 4 (.slice AV slots.length cv)).set_ 1 (.int .u64 l)
  have hP := (HP.out.far (p := ⟨x0, 4, none⟩) (by have := HB0.out; show _ ≠ x0; omega) (.slice AV slots.length cv)).far (p := ⟨x0, 1, none⟩) (by have := HB0.out; show _ ≠ x0; omega) (.int .u64 l)
  have hO := (HO.out.far (p := ⟨x0, 4, none⟩) (by have := HB0.out; show _ ≠ x0; omega) (.slice AV slots.length cv)).far (p := ⟨x0, 1, none⟩) (by have := HB0.out; show _ ≠ x0; omega) (.int .u64 l)
  have hZ := (HZ.out.far (p := ⟨x0, 4, none⟩) (by have := HB0.out; show _ ≠ x0; omega) (.slice AV slots.length cv)).far (p := ⟨x0, 1, none⟩) (by have := HB0.out; show _ ≠ x0; omega) (.int .u64 l)
  have hR := own_set (b := x0) (o := 1) (u := .int .u64 l) (own_set (b := x0) (o := 4) (u := .slice AV slots.length cv) HR.out HX.out (by decide)) (HX.out.set_ 4 _) (by decide)
  have hK := bsetAt (o := 1) (bsetAt (o := 4) HK.out (b := x0) (by have := HB0.out; omega) (.slice AV slots.length cv)) (b := x0) (by have := HB0.out; omega) (.int .u64 l)
  have hN : x0 + 1 ≤ ((w3.setCell ⟨x0, 4, none⟩ (.slice AV slots.length cv)).setCell ⟨x0, 1, none⟩ (.int .u64 l)).heap.size := by simpa using HN.out
  clear HX HP HO HZ HR HK HN HA HS HE cx0 cx1 cx2 cx3 cx4 fx1 fx4
  generalize (w3.setCell ⟨x0, 4, none⟩ (.slice AV slots.length cv)).setCell ⟨x0, 1, none⟩ (.int .u64 l) = w4 at *
  have HX := Lib.hid hX
  have HP := Lib.hid hP
  have HO := Lib.hid hO
  have HZ := Lib.hid hZ
  have HR := Lib.hid hR
  have HK := Lib.hid hK
  have HN := Lib.hid hN
  obtain ⟨co0, co1, co2, co3⟩ := opCells hO
  obtain ⟨cx0, cx1, cx2, cx3, cx4⟩ := pgCells hX
  clear hX hP hO hZ hR hK hN
  have H64 : Hid (sl.length ≤ 64) := Lib.hid (by rw [HSl.out, List.length_set]; exact HL.out)
  obtain ⟨g, hgv⟩ := own_some HR.out (by have := HI.out; omega)
  subst hgv
  have i0 : (0 : Int) ≤ i := by omega
  have i1 : (i : Int) < slots.length := by have := HI.out; omega
  have cg := HR.out.cellAt i (by have := HI.out; omega)
  rw [strV_at slots i HI.out] at cg
  have fg := HR.out.frozenAt i
  go_upto_region 25 with fail
  have hst := HR.out.stored i (.string s)
  have hne := own_ne_blk HR.out HX.out (by decide)
  have hne2 := own_ne_blk HR.out HZ.out (by decide)
  have hX := HX.out.grown hst.2 hne.symm
  have hZ := HZ.out.grown hst.2 hne2.symm
  have hK := bgrown HK.out hst.2 (fun k e => (HR.out.lt k e).1)
  have hR := hst.1
  rw [strV_set, ← HSl.out] at hR
  clear HX HZ HK HR HP HO HN HN0 co0 co1 co2 co3 cx0 cx1 cx2 cx3 cx4 cg fg hst hne hne2
  generalize w4.setCell ⟨g, i, none⟩ (.string s) = w5 at *
  have HX := Lib.hid hX
  have HZ := Lib.hid hZ
  have HK := Lib.hid hK
  have HR := Lib.hid hR
  clear hX hZ hK hR
  have hle : slots.length = sl.length := by rw [HSl.out, List.length_set]
  rw [hle] at HX HR
  clear hle
  have hrm := room_any num l kind head sl (some ⟨g, 0, none⟩) cv w5 (own_rdrows HR.out) H64.out HSZ.out HHZ.out
  have HRm := Lib.hid hrm
  clear hrm
  have hf1 : (485 : Int) - (head).size - slotsN (sl) < 0 → finR num l (kind) (head) (sl) = (0, 0, 0, ⟨#[]⟩, [], 30) := fun h => if_pos h
  have hf2 : ¬ (485 : Int) - (head).size - slotsN (sl) < 0 → finR num l (kind) (head) (sl) = (num, l, kind, head, sl, 0) := fun h => if_neg h
  have HF1 := Lib.hid hf1
  have HF2 := Lib.hid hf2
  clear hf1 hf2
  generalize hrm : (485 : Int) - (head).size - slotsN (sl) = rm at *
  by_cases hr : rm < 0
  · have d5 : decide (rm < 0) = true := by simpa using hr
    go_wp2_with (first | (refine wpList_load_row rfl 28 (.tmp 10) rfl x0 rfl 28 #[.int .u32 num, .int .u64 l, .int .i64 kind, .string head, .slice (some ⟨g, 0, none⟩) sl.length cv] (0, 0) _ HX.out Try.underlying28 rfl (by kernel_rfl) ?_) | (go_at_call 9; refine HRm.out.mono ?_; rintro e w9 ⟨rfl, hb9⟩; have HX1 := Lib.hid (HX.out.step hb9); have HZ1 := Lib.hid (HZ.out.step hb9); have HR1 := Lib.hid (own_below HR.out hb9); have HK1 := Lib.hid (bstep HK.out hb9); clear HX HZ HR HK hb9; have HX := HX1; have HZ := HZ1; have HR := HR1; have HK := HK1; clear HX1 HZ1 HR1 HK1) | (refine wpList_store_row rfl 28 (.tmp 6) (.tmp 119) rfl (w.heap.size + 2) #[.int .u32 0, .int .u64 0, .int .i64 0, .string ⟨#[]⟩, .slice none 0 0] rfl rfl 28 #[.int .u32 0, .int .u64 0, .int .i64 0, .string ⟨#[]⟩, .slice none 0 0] HZ.out (by kernel_rfl) rfl (by simp [Value.oneCell']) ?_))
    refine bodyPost_ret (v := .tuple #[.agg #[.int .u32 0, .int .u64 0, .int .i64 0, .string ⟨#[]⟩, .slice none 0 0], .int .i64 30]) (by exact results_ct (p := 6) (q := 7) rfl _ _ (w.heap.size + 2) 28 #[.int .u32 0, .int .u64 0, .int .i64 0, .string ⟨#[]⟩, .slice none 0 0] (0, 0) _ rfl (blk_setRow HZ.out) Try.underlying28 rfl (by kernel_rfl)) rfl ?_
    rw [HF1.out hr]
    exact ⟨_, rfl, World.ownsRow_nil _ _ _ _, setRow_below HK.out (by omega) _⟩
  · have d5 : decide (rm < 0) = false := by simpa using hr
    go_wp2_with (first | (refine wpList_load_row rfl 28 (.tmp 10) rfl x0 rfl 28 #[.int .u32 num, .int .u64 l, .int .i64 kind, .string head, .slice (some ⟨g, 0, none⟩) sl.length cv] (0, 0) _ HX.out Try.underlying28 rfl (by kernel_rfl) ?_) | (go_at_call 9; refine HRm.out.mono ?_; rintro e w9 ⟨rfl, hb9⟩; have HX1 := Lib.hid (HX.out.step hb9); have HZ1 := Lib.hid (HZ.out.step hb9); have HR1 := Lib.hid (own_below HR.out hb9); have HK1 := Lib.hid (bstep HK.out hb9); clear HX HZ HR HK hb9; have HX := HX1; have HZ := HZ1; have HR := HR1; have HK := HK1; clear HX1 HZ1 HR1 HK1) | (refine wpList_store_row rfl 28 (.tmp 6) (.tmp 120) rfl (w.heap.size + 2) #[.int .u32 num, .int .u64 l, .int .i64 kind, .string head, .slice (some ⟨g, 0, none⟩) sl.length cv] rfl rfl 28 #[.int .u32 0, .int .u64 0, .int .i64 0, .string ⟨#[]⟩, .slice none 0 0] HZ.out (by kernel_rfl) rfl (by simp [Value.oneCell']) ?_))
    refine bodyPost_ret (v := .tuple #[.agg #[.int .u32 num, .int .u64 l, .int .i64 kind, .string head, .slice (some ⟨g, 0, none⟩) sl.length cv], .int .i64 0]) (by exact results_ct (p := 6) (q := 7) rfl _ _ (w.heap.size + 2) 28 #[.int .u32 num, .int .u64 l, .int .i64 kind, .string head, .slice (some ⟨g, 0, none⟩) sl.length cv] (0, 0) _ rfl (blk_setRow HZ.out) Try.underlying28 rfl (by kernel_rfl)) rfl ?_
    rw [HF2.out hr]
    exact ⟨_, rfl, own_setRow HR.out HZ.out (by decide), setRow_below HK.out (by omega) _⟩
set_option maxHeartbeats 3000000 in
theorem apply_k6 (num lsn kind : Int) (head : ByteArray) (slots : List ByteArray) (AA : Option Addr) (cc : Nat) (i : Nat) (s o : ByteArray) (l : Int) (w : World) (hA : RdRows strC 1 w AA slots) (h64 : slots.length ≤ 64) (hE : opEs 6 i s o = 0) (hS : ∀ w', Below w.heap.size w w' → Calls Try.prog 33 #[.agg #[.int .u32 num, .int .u64 lsn, .int .i64 kind, .string head, .slice AA slots.length cc], .agg #[.int .i64 6, .int .i64 (i : Int), .string s, .string o]] w' fun e w'' => e = .returned (.int .i64 0) ∧ Below w'.heap.size w' w'') (p q : ByteArray) (sl : List ByteArray) (hp : 0 < slots.length) (hp0 : ∀ h : 0 < slots.length, slots[0]'h = p) (hsl : sl = slots.set 0 q) (hi : i + s.size ≤ p.size) (hps : p.size ≤ 140737488351232) (hq : p.extract 0 i ++ s ++ p.extract (i + s.size) p.size = q) (hsz : ∀ x ∈ sl, x.size ≤ 140737488351232) (hhz : (head).size ≤ 140737488351232) :
    Calls Try.prog 11 #[.agg #[.int .u32 num, .int .u64 lsn, .int .i64 kind, .string head, .slice AA slots.length cc], .agg #[.int .i64 6, .int .i64 (i : Int), .string s, .string o], .int .u64 l] w (apPost w (finR num l (kind) (head) (sl))) := by
  have HI := Lib.hid hi
  have HSl := Lib.hid hsl
  have Hp := Lib.hid hp
  have Hp0 := Lib.hid hp0
  have HPs := Lib.hid hps
  have HQ := Lib.hid hq
  clear hi hsl hp hp0 hps hq
  have HSZ := Lib.hid hsz
  have HHZ := Lib.hid hhz
  clear hsz hhz
  have HA := Lib.hid hA
  have HL := Lib.hid h64
  have HS := Lib.hid hS
  have HE := Lib.hid hE
  clear hA h64 hS hE
  go_enter Try.func11, Try.ntmps11
  go_upto_region 1 with fail
  have hP : Blk (((w.alloc (.cells #[.int .u32 num, .int .u64 lsn, .int .i64 kind, .string head, .slice AA slots.length cc] 28)).alloc (.cells #[.int .i64 6, .int .i64 (i : Int), .string s, .string o] 38)).alloc (.cells #[.int .u32 0, .int .u64 0, .int .i64 0, .string ⟨#[]⟩, .slice none 0 0] 28)) w.heap.size 28 #[.int .u32 num, .int .u64 lsn, .int .i64 kind, .string head, .slice AA slots.length cc] := ((Blk.new w 28 #[.int .u32 num, .int .u64 lsn, .int .i64 kind, .string head, .slice AA slots.length cc]).alloc _).alloc _
  have hO : Blk (((w.alloc (.cells #[.int .u32 num, .int .u64 lsn, .int .i64 kind, .string head, .slice AA slots.length cc] 28)).alloc (.cells #[.int .i64 6, .int .i64 (i : Int), .string s, .string o] 38)).alloc (.cells #[.int .u32 0, .int .u64 0, .int .i64 0, .string ⟨#[]⟩, .slice none 0 0] 28)) (w.heap.size + 1) 38 #[.int .i64 6, .int .i64 (i : Int), .string s, .string o] := by
    have := (Blk.new (w.alloc (.cells #[.int .u32 num, .int .u64 lsn, .int .i64 kind, .string head, .slice AA slots.length cc] 28)) 38 #[.int .i64 6, .int .i64 (i : Int), .string s, .string o]).alloc (.cells #[.int .u32 0, .int .u64 0, .int .i64 0, .string ⟨#[]⟩, .slice none 0 0] 28)
    rwa [size_al] at this
  have hZ : Blk (((w.alloc (.cells #[.int .u32 num, .int .u64 lsn, .int .i64 kind, .string head, .slice AA slots.length cc] 28)).alloc (.cells #[.int .i64 6, .int .i64 (i : Int), .string s, .string o] 38)).alloc (.cells #[.int .u32 0, .int .u64 0, .int .i64 0, .string ⟨#[]⟩, .slice none 0 0] 28)) (w.heap.size + 2) 28 #[.int .u32 0, .int .u64 0, .int .i64 0, .string ⟨#[]⟩, .slice none 0 0] := by
    have := Blk.new ((w.alloc (.cells #[.int .u32 num, .int .u64 lsn, .int .i64 kind, .string head, .slice AA slots.length cc] 28)).alloc (.cells #[.int .i64 6, .int .i64 (i : Int), .string s, .string o] 38)) 28 #[.int .u32 0, .int .u64 0, .int .i64 0, .string ⟨#[]⟩, .slice none 0 0]
    rwa [size_al, size_al] at this
  have hK := balloc (balloc (balloc (Below.refl w.heap.size w) (.cells #[.int .u32 num, .int .u64 lsn, .int .i64 kind, .string head, .slice AA slots.length cc] 28)) (.cells #[.int .i64 6, .int .i64 (i : Int), .string s, .string o] 38)) (.cells #[.int .u32 0, .int .u64 0, .int .i64 0, .string ⟨#[]⟩, .slice none 0 0] 28)
  have hN : w.heap.size + 3 ≤ (((w.alloc (.cells #[.int .u32 num, .int .u64 lsn, .int .i64 kind, .string head, .slice AA slots.length cc] 28)).alloc (.cells #[.int .i64 6, .int .i64 (i : Int), .string s, .string o] 38)).alloc (.cells #[.int .u32 0, .int .u64 0, .int .i64 0, .string ⟨#[]⟩, .slice none 0 0] 28)).heap.size := by rw [size_al, size_al, size_al]; omega
  have HP := Lib.hid hP
  have HO := Lib.hid hO
  have HZ := Lib.hid hZ
  have HK := Lib.hid hK
  have HN := Lib.hid hN
  clear hP hO hZ hK hN
  generalize ((w.alloc (.cells #[.int .u32 num, .int .u64 lsn, .int .i64 kind, .string head, .slice AA slots.length cc] 28)).alloc (.cells #[.int .i64 6, .int .i64 (i : Int), .string s, .string o] 38)).alloc (.cells #[.int .u32 0, .int .u64 0, .int .i64 0, .string ⟨#[]⟩, .slice none 0 0] 28) = w0 at *
  go_upto_region 7 with (first | (refine wpList_load_row rfl 28 (.tmp 3) rfl w.heap.size rfl 28 #[.int .u32 num, .int .u64 lsn, .int .i64 kind, .string head, .slice AA slots.length cc] (0, 0) _ HP.out Try.underlying28 rfl (by kernel_rfl) ?_) | (refine wpList_load_row rfl 38 (.tmp 4) rfl (w.heap.size + 1) rfl 38 #[.int .i64 6, .int .i64 (i : Int), .string s, .string o] (0, 0) _ HO.out Try.underlying38 rfl (by kernel_rfl) ?_) | (go_at_call 32; refine (pcheck_str 6 i s o _).mono ?_; rintro e w1 ⟨rfl, hb1⟩; rw [HE.out]; have HP1 := Lib.hid (HP.out.step hb1); have HO1 := Lib.hid (HO.out.step hb1); have HZ1 := Lib.hid (HZ.out.step hb1); have HK1 := Lib.hid (bstep HK.out hb1); have HN1 := Lib.hid (Nat.le_trans HN.out hb1.size); clear HN HK HP HO HZ; have HP := HP1; clear HP1; have HO := HO1; clear HO1; have HZ := HZ1; clear HZ1; have HK := HK1; clear HK1; have HN := HN1; clear HN1; clear hb1) | (go_at_call 33; refine (HS.out _ HK.out).mono ?_; rintro e w1 ⟨rfl, hb1⟩; have HP1 := Lib.hid (HP.out.step hb1); have HO1 := Lib.hid (HO.out.step hb1); have HZ1 := Lib.hid (HZ.out.step hb1); have HK1 := Lib.hid (bstep HK.out hb1); have HN1 := Lib.hid (Nat.le_trans HN.out hb1.size); clear HN HK HP HO HZ; have HP := HP1; clear HP1; have HO := HO1; clear HO1; have HZ := HZ1; clear HZ1; have HK := HK1; clear HK1; have HN := HN1; clear HN1; clear hb1))
  go_upto_region 8 with (first | (refine wpList_load_row rfl 28 (.tmp 3) rfl w.heap.size rfl 28 #[.int .u32 num, .int .u64 lsn, .int .i64 kind, .string head, .slice AA slots.length cc] (0, 0) _ HP.out Try.underlying28 rfl (by kernel_rfl) ?_) | (refine wpList_store_row rfl 28 (.tmp 10) (.tmp 25) rfl w1.heap.size #[.int .u32 num, .int .u64 lsn, .int .i64 kind, .string head, .slice AA slots.length cc] rfl rfl 28 #[.int .u32 0, .int .u64 0, .int .i64 0, .string ⟨#[]⟩, .slice none 0 0] (Blk.new w1 28 #[.int .u32 0, .int .u64 0, .int .i64 0, .string ⟨#[]⟩, .slice none 0 0]) (by kernel_rfl) rfl (by simp [Value.oneCell']) ?_))
  have hX := blk_setRow (cs' := #[.int .u32 num, .int .u64 lsn, .int .i64 kind, .string head, .slice AA slots.length cc]) (Blk.new w1 28 #[.int .u32 0, .int .u64 0, .int .i64 0, .string ⟨#[]⟩, .slice none 0 0])
  have hK := setRow_below (balloc HK.out (.cells #[.int .u32 0, .int .u64 0, .int .i64 0, .string ⟨#[]⟩, .slice none 0 0] 28)) (g := w1.heap.size) HK.out.size #[.int .u32 num, .int .u64 lsn, .int .i64 kind, .string head, .slice AA slots.length cc]
  have hP := blk_setRow_far (HP.out.alloc (.cells #[.int .u32 0, .int .u64 0, .int .i64 0, .string ⟨#[]⟩, .slice none 0 0] 28)) (b := w1.heap.size) #[.int .u32 num, .int .u64 lsn, .int .i64 kind, .string head, .slice AA slots.length cc] (by have := HN.out; omega)
  have hO := blk_setRow_far (HO.out.alloc (.cells #[.int .u32 0, .int .u64 0, .int .i64 0, .string ⟨#[]⟩, .slice none 0 0] 28)) (b := w1.heap.size) #[.int .u32 num, .int .u64 lsn, .int .i64 kind, .string head, .slice AA slots.length cc] (by have := HN.out; omega)
  have hZ := blk_setRow_far (HZ.out.alloc (.cells #[.int .u32 0, .int .u64 0, .int .i64 0, .string ⟨#[]⟩, .slice none 0 0] 28)) (b := w1.heap.size) #[.int .u32 num, .int .u64 lsn, .int .i64 kind, .string head, .slice AA slots.length cc] (by have := HN.out; omega)
  have hN : w1.heap.size + 1 ≤ ((w1.alloc (.cells #[.int .u32 0, .int .u64 0, .int .i64 0, .string ⟨#[]⟩, .slice none 0 0] 28)).setRow w1.heap.size #[.int .u32 num, .int .u64 lsn, .int .i64 kind, .string head, .slice AA slots.length cc]).heap.size := by rw [size_sr, size_al]; omega
  have hN0 := HN.out
  clear HP HO HZ HK HN
  obtain ⟨x0, hx0⟩ : ∃ x, x = w1.heap.size := ⟨_, rfl⟩
  rw [← hx0] at hX hP hO hZ hK hN hN0
  simp only [← hx0]
  have hcl := clone_any (A := AA) (l := slots) cc (rows_bl1 HA.out hK) (by have := HL.out; omega)
  generalize ((w1.alloc (.cells #[.int .u32 0, .int .u64 0, .int .i64 0, .string ⟨#[]⟩, .slice none 0 0] 28)).setRow x0 #[.int .u32 num, .int .u64 lsn, .int .i64 kind, .string head, .slice AA slots.length cc]) = w2 at *
  have HX := Lib.hid hX
  have HP := Lib.hid hP
  have HO := Lib.hid hO
  have HZ := Lib.hid hZ
  have HK := Lib.hid hK
  have HN := Lib.hid hN
  have HN0 := Lib.hid hN0
  have HC := Lib.hid hcl
  have c4 := (pgCells hP).2.2.2.2
  clear hX hP hO hZ hK hN hN0 hcl hx0
  go_upto_region 9 with (go_at_call 34; refine HC.out.mono ?_; rintro e w3 ⟨v, rfl, ho1, hb1⟩; obtain ⟨AV, cv, rfl⟩ := own_sl ho1; have ho1 := own_le ho1 HK.out.size; have HP1 := Lib.hid (HP.out.step hb1); have HO1 := Lib.hid (HO.out.step hb1); have HZ1 := Lib.hid (HZ.out.step hb1); have HX1 := Lib.hid (HX.out.step hb1); have HK1 := Lib.hid (bstep HK.out hb1); have HN1 := Lib.hid (Nat.le_trans HN.out hb1.size); clear HN HK HP HO HZ HX; have HP := HP1; clear HP1; have HO := HO1; clear HO1; have HZ := HZ1; clear HZ1; have HX := HX1; clear HX1; have HK := HK1; clear HK1; have HN := HN1; clear HN1; have HR := Lib.hid ho1; have HB0 := Lib.hid HN0.out; clear hb1 ho1 HC c4; obtain ⟨cx0, cx1, cx2, cx3, cx4⟩ := pgCells HX.out; have fx1 := HX.out.frozen 1; have fx4 := HX.out.frozen 4)
  have hX : Blk ((w3.setCell ⟨x0, 4, none⟩ (.slice AV slots.length cv)).setCell ⟨x0, 1, none⟩ (.int .u64 l)) x0 28 #[.int .u32 num, .int .u64 l, .int .i64 kind, .string head, .slice AV slots.length cv] := (HX.out.set_ 4 (.slice AV slots.length cv)).set_ 1 (.int .u64 l)
  have hP := (HP.out.far (p := ⟨x0, 4, none⟩) (by have := HB0.out; show _ ≠ x0; omega) (.slice AV slots.length cv)).far (p := ⟨x0, 1, none⟩) (by have := HB0.out; show _ ≠ x0; omega) (.int .u64 l)
  have hO := (HO.out.far (p := ⟨x0, 4, none⟩) (by have := HB0.out; show _ ≠ x0; omega) (.slice AV slots.length cv)).far (p := ⟨x0, 1, none⟩) (by have := HB0.out; show _ ≠ x0; omega) (.int .u64 l)
  have hZ := (HZ.out.far (p := ⟨x0, 4, none⟩) (by have := HB0.out; show _ ≠ x0; omega) (.slice AV slots.length cv)).far (p := ⟨x0, 1, none⟩) (by have := HB0.out; show _ ≠ x0; omega) (.int .u64 l)
  have hR := own_set (b := x0) (o := 1) (u := .int .u64 l) (own_set (b := x0) (o := 4) (u := .slice AV slots.length cv) HR.out HX.out (by decide)) (HX.out.set_ 4 _) (by decide)
  have hK := bsetAt (o := 1) (bsetAt (o := 4) HK.out (b := x0) (by have := HB0.out; omega) (.slice AV slots.length cv)) (b := x0) (by have := HB0.out; omega) (.int .u64 l)
  have hN : x0 + 1 ≤ ((w3.setCell ⟨x0, 4, none⟩ (.slice AV slots.length cv)).setCell ⟨x0, 1, none⟩ (.int .u64 l)).heap.size := by simpa using HN.out
  clear HX HP HO HZ HR HK HN HA HS HE cx0 cx1 cx2 cx3 cx4 fx1 fx4
  generalize (w3.setCell ⟨x0, 4, none⟩ (.slice AV slots.length cv)).setCell ⟨x0, 1, none⟩ (.int .u64 l) = w4 at *
  have HX := Lib.hid hX
  have HP := Lib.hid hP
  have HO := Lib.hid hO
  have HZ := Lib.hid hZ
  have HR := Lib.hid hR
  have HK := Lib.hid hK
  have HN := Lib.hid hN
  obtain ⟨co0, co1, co2, co3⟩ := opCells hO
  obtain ⟨cx0, cx1, cx2, cx3, cx4⟩ := pgCells hX
  clear hX hP hO hZ hR hK hN
  have H64 : Hid (sl.length ≤ 64) := Lib.hid (by rw [HSl.out, List.length_set]; exact HL.out)
  obtain ⟨g, hgv⟩ := own_some HR.out (by have := Hp.out; omega)
  subst hgv
  have n0 : (0 : Int) < slots.length := by have := Hp.out; omega
  have i0 : (0 : Int) ≤ i := by omega
  have i1 : (i : Int) ≤ p.size := by have := HI.out; omega
  have i2 : (i : Int) + s.size ≤ p.size := by have := HI.out; omega
  have i3 : (0 : Int) ≤ (i : Int) + s.size := by omega
  have i4 : (p.size : Int) ≤ 140737488351232 := by have := HPs.out; omega
  have cg := HR.out.cellAt 0 (by have := Hp.out; omega)
  rw [strV_at slots 0 Hp.out, Hp0.out Hp.out] at cg
  have fg := HR.out.frozenAt 0
  have hne : g ≠ w.heap.size + 1 := fun e => own_ne_blk HR.out HO.out (by decide) (by rw [e]; rfl)
  have hne' : w.heap.size + 1 ≠ g := fun e => hne e.symm
  have hnx : g ≠ x0 := fun e => own_ne_blk HR.out HX.out (by decide) (by rw [e]; rfl)
  have hnx' : x0 ≠ g := fun e => hnx e.symm
  go_upto_region 24 with fail
  go_region
  rw [HQ.out]
  clear n0 i0 i1 i2 i3 i4 hnx hnx' 
  have hst := HR.out.stored 0 (.string q)
  have hne3 := own_ne_blk HR.out HX.out (by decide)
  have hne2 := own_ne_blk HR.out HZ.out (by decide)
  have hX := (HX.out.grown hst.2 hne3.symm).drew
  have hZ := (HZ.out.grown hst.2 hne2.symm).drew
  have hK0 := bgrown HK.out hst.2 (fun k e => (HR.out.lt k e).1)
  have hK : Below w.heap.size w (w4.setCell ⟨g, 0, none⟩ (.string q)).drew := ⟨hK0.os, hK0.tape, hK0.output, hK0.size, hK0.block⟩
  have hR := hst.1
  rw [strV_set, ← HSl.out] at hR
  have hR := hR.drew
  clear hK0 HX HZ HK HR HP HO HN HN0 co0 co1 co2 co3 cx0 cx1 cx2 cx3 cx4 cg fg hst hne hne' hne2 hne3
  generalize (w4.setCell ⟨g, 0, none⟩ (.string q)).drew = w5 at *
  have HX := Lib.hid hX
  have HZ := Lib.hid hZ
  have HK := Lib.hid hK
  have HR := Lib.hid hR
  clear hX hZ hK hR
  have hle : slots.length = sl.length := by rw [HSl.out, List.length_set]
  rw [hle] at HX HR
  clear hle
  have hrm := room_any num l kind head sl (some ⟨g, 0, none⟩) cv w5 (own_rdrows HR.out) H64.out HSZ.out HHZ.out
  have HRm := Lib.hid hrm
  clear hrm
  have hf1 : (485 : Int) - (head).size - slotsN (sl) < 0 → finR num l (kind) (head) (sl) = (0, 0, 0, ⟨#[]⟩, [], 30) := fun h => if_pos h
  have hf2 : ¬ (485 : Int) - (head).size - slotsN (sl) < 0 → finR num l (kind) (head) (sl) = (num, l, kind, head, sl, 0) := fun h => if_neg h
  have HF1 := Lib.hid hf1
  have HF2 := Lib.hid hf2
  clear hf1 hf2
  generalize hrm : (485 : Int) - (head).size - slotsN (sl) = rm at *
  by_cases hr : rm < 0
  · have d5 : decide (rm < 0) = true := by simpa using hr
    go_wp2_with (first | (refine wpList_load_row rfl 28 (.tmp 10) rfl x0 rfl 28 #[.int .u32 num, .int .u64 l, .int .i64 kind, .string head, .slice (some ⟨g, 0, none⟩) sl.length cv] (0, 0) _ HX.out Try.underlying28 rfl (by kernel_rfl) ?_) | (go_at_call 9; refine HRm.out.mono ?_; rintro e w9 ⟨rfl, hb9⟩; have HX1 := Lib.hid (HX.out.step hb9); have HZ1 := Lib.hid (HZ.out.step hb9); have HR1 := Lib.hid (own_below HR.out hb9); have HK1 := Lib.hid (bstep HK.out hb9); clear HX HZ HR HK hb9; have HX := HX1; have HZ := HZ1; have HR := HR1; have HK := HK1; clear HX1 HZ1 HR1 HK1) | (refine wpList_store_row rfl 28 (.tmp 6) (.tmp 119) rfl (w.heap.size + 2) #[.int .u32 0, .int .u64 0, .int .i64 0, .string ⟨#[]⟩, .slice none 0 0] rfl rfl 28 #[.int .u32 0, .int .u64 0, .int .i64 0, .string ⟨#[]⟩, .slice none 0 0] HZ.out (by kernel_rfl) rfl (by simp [Value.oneCell']) ?_))
    refine bodyPost_ret (v := .tuple #[.agg #[.int .u32 0, .int .u64 0, .int .i64 0, .string ⟨#[]⟩, .slice none 0 0], .int .i64 30]) (by exact results_ct (p := 6) (q := 7) rfl _ _ (w.heap.size + 2) 28 #[.int .u32 0, .int .u64 0, .int .i64 0, .string ⟨#[]⟩, .slice none 0 0] (0, 0) _ rfl (blk_setRow HZ.out) Try.underlying28 rfl (by kernel_rfl)) rfl ?_
    rw [HF1.out hr]
    exact ⟨_, rfl, World.ownsRow_nil _ _ _ _, setRow_below HK.out (by omega) _⟩
  · have d5 : decide (rm < 0) = false := by simpa using hr
    go_wp2_with (first | (refine wpList_load_row rfl 28 (.tmp 10) rfl x0 rfl 28 #[.int .u32 num, .int .u64 l, .int .i64 kind, .string head, .slice (some ⟨g, 0, none⟩) sl.length cv] (0, 0) _ HX.out Try.underlying28 rfl (by kernel_rfl) ?_) | (go_at_call 9; refine HRm.out.mono ?_; rintro e w9 ⟨rfl, hb9⟩; have HX1 := Lib.hid (HX.out.step hb9); have HZ1 := Lib.hid (HZ.out.step hb9); have HR1 := Lib.hid (own_below HR.out hb9); have HK1 := Lib.hid (bstep HK.out hb9); clear HX HZ HR HK hb9; have HX := HX1; have HZ := HZ1; have HR := HR1; have HK := HK1; clear HX1 HZ1 HR1 HK1) | (refine wpList_store_row rfl 28 (.tmp 6) (.tmp 120) rfl (w.heap.size + 2) #[.int .u32 num, .int .u64 l, .int .i64 kind, .string head, .slice (some ⟨g, 0, none⟩) sl.length cv] rfl rfl 28 #[.int .u32 0, .int .u64 0, .int .i64 0, .string ⟨#[]⟩, .slice none 0 0] HZ.out (by kernel_rfl) rfl (by simp [Value.oneCell']) ?_))
    refine bodyPost_ret (v := .tuple #[.agg #[.int .u32 num, .int .u64 l, .int .i64 kind, .string head, .slice (some ⟨g, 0, none⟩) sl.length cv], .int .i64 0]) (by exact results_ct (p := 6) (q := 7) rfl _ _ (w.heap.size + 2) 28 #[.int .u32 num, .int .u64 l, .int .i64 kind, .string head, .slice (some ⟨g, 0, none⟩) sl.length cv] (0, 0) _ rfl (blk_setRow HZ.out) Try.underlying28 rfl (by kernel_rfl)) rfl ?_
    rw [HF2.out hr]
    exact ⟨_, rfl, own_setRow HR.out HZ.out (by decide), setRow_below HK.out (by omega) _⟩
set_option maxHeartbeats 3000000 in
theorem apply_k7 (num lsn kind : Int) (head : ByteArray) (slots : List ByteArray) (AA : Option Addr) (cc : Nat) (a : Int) (s o : ByteArray) (l : Int) (w : World) (hA : RdRows strC 1 w AA slots) (h64 : slots.length ≤ 64) (hE : opEs 7 a s o = 0) (hS : ∀ w', Below w.heap.size w w' → Calls Try.prog 33 #[.agg #[.int .u32 num, .int .u64 lsn, .int .i64 kind, .string head, .slice AA slots.length cc], .agg #[.int .i64 7, .int .i64 a, .string s, .string o]] w' fun e w'' => e = .returned (.int .i64 0) ∧ Below w'.heap.size w' w'') (KD : Int) (HD : ByteArray) (h1 : 1 ≤ s.size) (hKD : ∀ h : 0 < s.size, wrap64 ((s[0]'h).toNat : Int) = KD) (hHD : s.extract 1 s.size = HD) (hsz : ∀ x ∈ slots, x.size ≤ 140737488351232) (hhz : (HD).size ≤ 140737488351232) :
    Calls Try.prog 11 #[.agg #[.int .u32 num, .int .u64 lsn, .int .i64 kind, .string head, .slice AA slots.length cc], .agg #[.int .i64 7, .int .i64 a, .string s, .string o], .int .u64 l] w (apPost w (finR num l (KD) (HD) (slots))) := by
  have Hh1 := Lib.hid h1
  have HKD := Lib.hid hKD
  have HHD := Lib.hid hHD
  clear h1 hKD hHD
  have HSZ := Lib.hid hsz
  have HHZ := Lib.hid hhz
  clear hsz hhz
  have HA := Lib.hid hA
  have HL := Lib.hid h64
  have HS := Lib.hid hS
  have HE := Lib.hid hE
  clear hA h64 hS hE
  go_enter Try.func11, Try.ntmps11
  go_upto_region 1 with fail
  have hP : Blk (((w.alloc (.cells #[.int .u32 num, .int .u64 lsn, .int .i64 kind, .string head, .slice AA slots.length cc] 28)).alloc (.cells #[.int .i64 7, .int .i64 a, .string s, .string o] 38)).alloc (.cells #[.int .u32 0, .int .u64 0, .int .i64 0, .string ⟨#[]⟩, .slice none 0 0] 28)) w.heap.size 28 #[.int .u32 num, .int .u64 lsn, .int .i64 kind, .string head, .slice AA slots.length cc] := ((Blk.new w 28 #[.int .u32 num, .int .u64 lsn, .int .i64 kind, .string head, .slice AA slots.length cc]).alloc _).alloc _
  have hO : Blk (((w.alloc (.cells #[.int .u32 num, .int .u64 lsn, .int .i64 kind, .string head, .slice AA slots.length cc] 28)).alloc (.cells #[.int .i64 7, .int .i64 a, .string s, .string o] 38)).alloc (.cells #[.int .u32 0, .int .u64 0, .int .i64 0, .string ⟨#[]⟩, .slice none 0 0] 28)) (w.heap.size + 1) 38 #[.int .i64 7, .int .i64 a, .string s, .string o] := by
    have := (Blk.new (w.alloc (.cells #[.int .u32 num, .int .u64 lsn, .int .i64 kind, .string head, .slice AA slots.length cc] 28)) 38 #[.int .i64 7, .int .i64 a, .string s, .string o]).alloc (.cells #[.int .u32 0, .int .u64 0, .int .i64 0, .string ⟨#[]⟩, .slice none 0 0] 28)
    rwa [size_al] at this
  have hZ : Blk (((w.alloc (.cells #[.int .u32 num, .int .u64 lsn, .int .i64 kind, .string head, .slice AA slots.length cc] 28)).alloc (.cells #[.int .i64 7, .int .i64 a, .string s, .string o] 38)).alloc (.cells #[.int .u32 0, .int .u64 0, .int .i64 0, .string ⟨#[]⟩, .slice none 0 0] 28)) (w.heap.size + 2) 28 #[.int .u32 0, .int .u64 0, .int .i64 0, .string ⟨#[]⟩, .slice none 0 0] := by
    have := Blk.new ((w.alloc (.cells #[.int .u32 num, .int .u64 lsn, .int .i64 kind, .string head, .slice AA slots.length cc] 28)).alloc (.cells #[.int .i64 7, .int .i64 a, .string s, .string o] 38)) 28 #[.int .u32 0, .int .u64 0, .int .i64 0, .string ⟨#[]⟩, .slice none 0 0]
    rwa [size_al, size_al] at this
  have hK := balloc (balloc (balloc (Below.refl w.heap.size w) (.cells #[.int .u32 num, .int .u64 lsn, .int .i64 kind, .string head, .slice AA slots.length cc] 28)) (.cells #[.int .i64 7, .int .i64 a, .string s, .string o] 38)) (.cells #[.int .u32 0, .int .u64 0, .int .i64 0, .string ⟨#[]⟩, .slice none 0 0] 28)
  have hN : w.heap.size + 3 ≤ (((w.alloc (.cells #[.int .u32 num, .int .u64 lsn, .int .i64 kind, .string head, .slice AA slots.length cc] 28)).alloc (.cells #[.int .i64 7, .int .i64 a, .string s, .string o] 38)).alloc (.cells #[.int .u32 0, .int .u64 0, .int .i64 0, .string ⟨#[]⟩, .slice none 0 0] 28)).heap.size := by rw [size_al, size_al, size_al]; omega
  have HP := Lib.hid hP
  have HO := Lib.hid hO
  have HZ := Lib.hid hZ
  have HK := Lib.hid hK
  have HN := Lib.hid hN
  clear hP hO hZ hK hN
  generalize ((w.alloc (.cells #[.int .u32 num, .int .u64 lsn, .int .i64 kind, .string head, .slice AA slots.length cc] 28)).alloc (.cells #[.int .i64 7, .int .i64 a, .string s, .string o] 38)).alloc (.cells #[.int .u32 0, .int .u64 0, .int .i64 0, .string ⟨#[]⟩, .slice none 0 0] 28) = w0 at *
  go_upto_region 7 with (first | (refine wpList_load_row rfl 28 (.tmp 3) rfl w.heap.size rfl 28 #[.int .u32 num, .int .u64 lsn, .int .i64 kind, .string head, .slice AA slots.length cc] (0, 0) _ HP.out Try.underlying28 rfl (by kernel_rfl) ?_) | (refine wpList_load_row rfl 38 (.tmp 4) rfl (w.heap.size + 1) rfl 38 #[.int .i64 7, .int .i64 a, .string s, .string o] (0, 0) _ HO.out Try.underlying38 rfl (by kernel_rfl) ?_) | (go_at_call 32; refine (pcheck_str 7 a s o _).mono ?_; rintro e w1 ⟨rfl, hb1⟩; rw [HE.out]; have HP1 := Lib.hid (HP.out.step hb1); have HO1 := Lib.hid (HO.out.step hb1); have HZ1 := Lib.hid (HZ.out.step hb1); have HK1 := Lib.hid (bstep HK.out hb1); have HN1 := Lib.hid (Nat.le_trans HN.out hb1.size); clear HN HK HP HO HZ; have HP := HP1; clear HP1; have HO := HO1; clear HO1; have HZ := HZ1; clear HZ1; have HK := HK1; clear HK1; have HN := HN1; clear HN1; clear hb1) | (go_at_call 33; refine (HS.out _ HK.out).mono ?_; rintro e w1 ⟨rfl, hb1⟩; have HP1 := Lib.hid (HP.out.step hb1); have HO1 := Lib.hid (HO.out.step hb1); have HZ1 := Lib.hid (HZ.out.step hb1); have HK1 := Lib.hid (bstep HK.out hb1); have HN1 := Lib.hid (Nat.le_trans HN.out hb1.size); clear HN HK HP HO HZ; have HP := HP1; clear HP1; have HO := HO1; clear HO1; have HZ := HZ1; clear HZ1; have HK := HK1; clear HK1; have HN := HN1; clear HN1; clear hb1))
  go_upto_region 8 with (first | (refine wpList_load_row rfl 28 (.tmp 3) rfl w.heap.size rfl 28 #[.int .u32 num, .int .u64 lsn, .int .i64 kind, .string head, .slice AA slots.length cc] (0, 0) _ HP.out Try.underlying28 rfl (by kernel_rfl) ?_) | (refine wpList_store_row rfl 28 (.tmp 10) (.tmp 25) rfl w1.heap.size #[.int .u32 num, .int .u64 lsn, .int .i64 kind, .string head, .slice AA slots.length cc] rfl rfl 28 #[.int .u32 0, .int .u64 0, .int .i64 0, .string ⟨#[]⟩, .slice none 0 0] (Blk.new w1 28 #[.int .u32 0, .int .u64 0, .int .i64 0, .string ⟨#[]⟩, .slice none 0 0]) (by kernel_rfl) rfl (by simp [Value.oneCell']) ?_))
  have hX := blk_setRow (cs' := #[.int .u32 num, .int .u64 lsn, .int .i64 kind, .string head, .slice AA slots.length cc]) (Blk.new w1 28 #[.int .u32 0, .int .u64 0, .int .i64 0, .string ⟨#[]⟩, .slice none 0 0])
  have hK := setRow_below (balloc HK.out (.cells #[.int .u32 0, .int .u64 0, .int .i64 0, .string ⟨#[]⟩, .slice none 0 0] 28)) (g := w1.heap.size) HK.out.size #[.int .u32 num, .int .u64 lsn, .int .i64 kind, .string head, .slice AA slots.length cc]
  have hP := blk_setRow_far (HP.out.alloc (.cells #[.int .u32 0, .int .u64 0, .int .i64 0, .string ⟨#[]⟩, .slice none 0 0] 28)) (b := w1.heap.size) #[.int .u32 num, .int .u64 lsn, .int .i64 kind, .string head, .slice AA slots.length cc] (by have := HN.out; omega)
  have hO := blk_setRow_far (HO.out.alloc (.cells #[.int .u32 0, .int .u64 0, .int .i64 0, .string ⟨#[]⟩, .slice none 0 0] 28)) (b := w1.heap.size) #[.int .u32 num, .int .u64 lsn, .int .i64 kind, .string head, .slice AA slots.length cc] (by have := HN.out; omega)
  have hZ := blk_setRow_far (HZ.out.alloc (.cells #[.int .u32 0, .int .u64 0, .int .i64 0, .string ⟨#[]⟩, .slice none 0 0] 28)) (b := w1.heap.size) #[.int .u32 num, .int .u64 lsn, .int .i64 kind, .string head, .slice AA slots.length cc] (by have := HN.out; omega)
  have hN : w1.heap.size + 1 ≤ ((w1.alloc (.cells #[.int .u32 0, .int .u64 0, .int .i64 0, .string ⟨#[]⟩, .slice none 0 0] 28)).setRow w1.heap.size #[.int .u32 num, .int .u64 lsn, .int .i64 kind, .string head, .slice AA slots.length cc]).heap.size := by rw [size_sr, size_al]; omega
  have hN0 := HN.out
  clear HP HO HZ HK HN
  obtain ⟨x0, hx0⟩ : ∃ x, x = w1.heap.size := ⟨_, rfl⟩
  rw [← hx0] at hX hP hO hZ hK hN hN0
  simp only [← hx0]
  have hcl := clone_any (A := AA) (l := slots) cc (rows_bl1 HA.out hK) (by have := HL.out; omega)
  generalize ((w1.alloc (.cells #[.int .u32 0, .int .u64 0, .int .i64 0, .string ⟨#[]⟩, .slice none 0 0] 28)).setRow x0 #[.int .u32 num, .int .u64 lsn, .int .i64 kind, .string head, .slice AA slots.length cc]) = w2 at *
  have HX := Lib.hid hX
  have HP := Lib.hid hP
  have HO := Lib.hid hO
  have HZ := Lib.hid hZ
  have HK := Lib.hid hK
  have HN := Lib.hid hN
  have HN0 := Lib.hid hN0
  have HC := Lib.hid hcl
  have c4 := (pgCells hP).2.2.2.2
  clear hX hP hO hZ hK hN hN0 hcl hx0
  go_upto_region 9 with (go_at_call 34; refine HC.out.mono ?_; rintro e w3 ⟨v, rfl, ho1, hb1⟩; obtain ⟨AV, cv, rfl⟩ := own_sl ho1; have ho1 := own_le ho1 HK.out.size; have HP1 := Lib.hid (HP.out.step hb1); have HO1 := Lib.hid (HO.out.step hb1); have HZ1 := Lib.hid (HZ.out.step hb1); have HX1 := Lib.hid (HX.out.step hb1); have HK1 := Lib.hid (bstep HK.out hb1); have HN1 := Lib.hid (Nat.le_trans HN.out hb1.size); clear HN HK HP HO HZ HX; have HP := HP1; clear HP1; have HO := HO1; clear HO1; have HZ := HZ1; clear HZ1; have HX := HX1; clear HX1; have HK := HK1; clear HK1; have HN := HN1; clear HN1; have HR := Lib.hid ho1; have HB0 := Lib.hid HN0.out; clear hb1 ho1 HC c4; obtain ⟨cx0, cx1, cx2, cx3, cx4⟩ := pgCells HX.out; have fx1 := HX.out.frozen 1; have fx4 := HX.out.frozen 4)
  have hX : Blk ((w3.setCell ⟨x0, 4, none⟩ (.slice AV slots.length cv)).setCell ⟨x0, 1, none⟩ (.int .u64 l)) x0 28 #[.int .u32 num, .int .u64 l, .int .i64 kind, .string head, .slice AV slots.length cv] := (HX.out.set_ 4 (.slice AV slots.length cv)).set_ 1 (.int .u64 l)
  have hP := (HP.out.far (p := ⟨x0, 4, none⟩) (by have := HB0.out; show _ ≠ x0; omega) (.slice AV slots.length cv)).far (p := ⟨x0, 1, none⟩) (by have := HB0.out; show _ ≠ x0; omega) (.int .u64 l)
  have hO := (HO.out.far (p := ⟨x0, 4, none⟩) (by have := HB0.out; show _ ≠ x0; omega) (.slice AV slots.length cv)).far (p := ⟨x0, 1, none⟩) (by have := HB0.out; show _ ≠ x0; omega) (.int .u64 l)
  have hZ := (HZ.out.far (p := ⟨x0, 4, none⟩) (by have := HB0.out; show _ ≠ x0; omega) (.slice AV slots.length cv)).far (p := ⟨x0, 1, none⟩) (by have := HB0.out; show _ ≠ x0; omega) (.int .u64 l)
  have hR := own_set (b := x0) (o := 1) (u := .int .u64 l) (own_set (b := x0) (o := 4) (u := .slice AV slots.length cv) HR.out HX.out (by decide)) (HX.out.set_ 4 _) (by decide)
  have hK := bsetAt (o := 1) (bsetAt (o := 4) HK.out (b := x0) (by have := HB0.out; omega) (.slice AV slots.length cv)) (b := x0) (by have := HB0.out; omega) (.int .u64 l)
  have hN : x0 + 1 ≤ ((w3.setCell ⟨x0, 4, none⟩ (.slice AV slots.length cv)).setCell ⟨x0, 1, none⟩ (.int .u64 l)).heap.size := by simpa using HN.out
  clear HX HP HO HZ HR HK HN HA HS HE cx0 cx1 cx2 cx3 cx4 fx1 fx4
  generalize (w3.setCell ⟨x0, 4, none⟩ (.slice AV slots.length cv)).setCell ⟨x0, 1, none⟩ (.int .u64 l) = w4 at *
  have HX := Lib.hid hX
  have HP := Lib.hid hP
  have HO := Lib.hid hO
  have HZ := Lib.hid hZ
  have HR := Lib.hid hR
  have HK := Lib.hid hK
  have HN := Lib.hid hN
  obtain ⟨co0, co1, co2, co3⟩ := opCells hO
  obtain ⟨cx0, cx1, cx2, cx3, cx4⟩ := pgCells hX
  clear hX hP hO hZ hR hK hN
  have H64 := HL
  have fx2 := HX.out.frozen 2
  have fx3 := HX.out.frozen 3
  have hn1 : x0 ≠ w.heap.size + 1 := by have := HB0.out; omega
  have hn2 : w.heap.size + 1 ≠ x0 := by have := HB0.out; omega
  have s0 : 0 < s.size := by have := Hh1.out; omega
  have s1 : (1 : Int) ≤ s.size := by have := Hh1.out; omega
  have s2 : (0 : Int) < s.size := by have := Hh1.out; omega
  go_upto_region 21 with fail
  go_region
  rw [HKD.out s0, HHD.out]
  clear fx2 fx3 hn1 hn2
  have hX : Blk (((w4).setCell ⟨x0, 2, none⟩ (.int .i64 KD)).setCell ⟨x0, 3, none⟩ (.string HD)) x0 28 #[.int .u32 num, .int .u64 l, .int .i64 KD, .string HD, .slice AV slots.length cv] := ((HX.out.set_ 2 (.int .i64 KD))).set_ 3 (.string HD)
  have hZ := ((HZ.out).far (p := ⟨x0, 2, none⟩) (by have := HB0.out; show _ ≠ x0; omega) (.int .i64 KD)).far (p := ⟨x0, 3, none⟩) (by have := HB0.out; show _ ≠ x0; omega) (.string HD)
  have hK := (bsetAt (o := 3) ((bsetAt (o := 2) (HK.out) (b := x0) (by have := HB0.out; omega) (.int .i64 KD))) (b := x0) (by have := HB0.out; omega) (.string HD))
  have hR := (own_set (b := x0) (o := 3) (u := .string HD) ((own_set (b := x0) (o := 2) (u := .int .i64 KD) (HR.out) (HX.out) (by decide))) ((HX.out).set_ 2 (.int .i64 KD)) (by decide))
  clear HX HZ HK HR HP HO HN HN0 co0 co1 co2 co3 cx0 cx1 cx2 cx3 cx4
  have hX := hX.drew
  have hZ := hZ.drew
  have hR := hR.drew
  have hK : Below w.heap.size w (((w4).setCell ⟨x0, 2, none⟩ (.int .i64 KD)).setCell ⟨x0, 3, none⟩ (.string HD)).drew := ⟨hK.os, hK.tape, hK.output, hK.size, hK.block⟩
  generalize (((w4).setCell ⟨x0, 2, none⟩ (.int .i64 KD)).setCell ⟨x0, 3, none⟩ (.string HD)).drew = w5 at *
  have HX := Lib.hid hX
  have HZ := Lib.hid hZ
  have HK := Lib.hid hK
  have HR := Lib.hid hR
  clear hX hZ hK hR
  have hrm := room_any num l KD HD slots AV cv w5 (own_rdrows HR.out) H64.out HSZ.out HHZ.out
  have HRm := Lib.hid hrm
  clear hrm
  have hf1 : (485 : Int) - (HD).size - slotsN (slots) < 0 → finR num l (KD) (HD) (slots) = (0, 0, 0, ⟨#[]⟩, [], 30) := fun h => if_pos h
  have hf2 : ¬ (485 : Int) - (HD).size - slotsN (slots) < 0 → finR num l (KD) (HD) (slots) = (num, l, KD, HD, slots, 0) := fun h => if_neg h
  have HF1 := Lib.hid hf1
  have HF2 := Lib.hid hf2
  clear hf1 hf2
  generalize hrm : (485 : Int) - (HD).size - slotsN (slots) = rm at *
  by_cases hr : rm < 0
  · have d5 : decide (rm < 0) = true := by simpa using hr
    go_wp2_with (first | (refine wpList_load_row rfl 28 (.tmp 10) rfl x0 rfl 28 #[.int .u32 num, .int .u64 l, .int .i64 KD, .string HD, .slice AV slots.length cv] (0, 0) _ HX.out Try.underlying28 rfl (by kernel_rfl) ?_) | (go_at_call 9; refine HRm.out.mono ?_; rintro e w9 ⟨rfl, hb9⟩; have HX1 := Lib.hid (HX.out.step hb9); have HZ1 := Lib.hid (HZ.out.step hb9); have HR1 := Lib.hid (own_below HR.out hb9); have HK1 := Lib.hid (bstep HK.out hb9); clear HX HZ HR HK hb9; have HX := HX1; have HZ := HZ1; have HR := HR1; have HK := HK1; clear HX1 HZ1 HR1 HK1) | (refine wpList_store_row rfl 28 (.tmp 6) (.tmp 119) rfl (w.heap.size + 2) #[.int .u32 0, .int .u64 0, .int .i64 0, .string ⟨#[]⟩, .slice none 0 0] rfl rfl 28 #[.int .u32 0, .int .u64 0, .int .i64 0, .string ⟨#[]⟩, .slice none 0 0] HZ.out (by kernel_rfl) rfl (by simp [Value.oneCell']) ?_))
    refine bodyPost_ret (v := .tuple #[.agg #[.int .u32 0, .int .u64 0, .int .i64 0, .string ⟨#[]⟩, .slice none 0 0], .int .i64 30]) (by exact results_ct (p := 6) (q := 7) rfl _ _ (w.heap.size + 2) 28 #[.int .u32 0, .int .u64 0, .int .i64 0, .string ⟨#[]⟩, .slice none 0 0] (0, 0) _ rfl (blk_setRow HZ.out) Try.underlying28 rfl (by kernel_rfl)) rfl ?_
    rw [HF1.out hr]
    exact ⟨_, rfl, World.ownsRow_nil _ _ _ _, setRow_below HK.out (by omega) _⟩
  · have d5 : decide (rm < 0) = false := by simpa using hr
    go_wp2_with (first | (refine wpList_load_row rfl 28 (.tmp 10) rfl x0 rfl 28 #[.int .u32 num, .int .u64 l, .int .i64 KD, .string HD, .slice AV slots.length cv] (0, 0) _ HX.out Try.underlying28 rfl (by kernel_rfl) ?_) | (go_at_call 9; refine HRm.out.mono ?_; rintro e w9 ⟨rfl, hb9⟩; have HX1 := Lib.hid (HX.out.step hb9); have HZ1 := Lib.hid (HZ.out.step hb9); have HR1 := Lib.hid (own_below HR.out hb9); have HK1 := Lib.hid (bstep HK.out hb9); clear HX HZ HR HK hb9; have HX := HX1; have HZ := HZ1; have HR := HR1; have HK := HK1; clear HX1 HZ1 HR1 HK1) | (refine wpList_store_row rfl 28 (.tmp 6) (.tmp 120) rfl (w.heap.size + 2) #[.int .u32 num, .int .u64 l, .int .i64 KD, .string HD, .slice AV slots.length cv] rfl rfl 28 #[.int .u32 0, .int .u64 0, .int .i64 0, .string ⟨#[]⟩, .slice none 0 0] HZ.out (by kernel_rfl) rfl (by simp [Value.oneCell']) ?_))
    refine bodyPost_ret (v := .tuple #[.agg #[.int .u32 num, .int .u64 l, .int .i64 KD, .string HD, .slice AV slots.length cv], .int .i64 0]) (by exact results_ct (p := 6) (q := 7) rfl _ _ (w.heap.size + 2) 28 #[.int .u32 num, .int .u64 l, .int .i64 KD, .string HD, .slice AV slots.length cv] (0, 0) _ rfl (blk_setRow HZ.out) Try.underlying28 rfl (by kernel_rfl)) rfl ?_
    rw [HF2.out hr]
    exact ⟨_, rfl, own_setRow HR.out HZ.out (by decide), setRow_below HK.out (by omega) _⟩
set_option maxHeartbeats 3000000 in
theorem apply_k5 (num lsn kind : Int) (head : ByteArray) (slots : List ByteArray) (AA : Option Addr) (cc : Nat) (a : Int) (s o : ByteArray) (l : Int) (w : World) (hA : RdRows strC 1 w AA slots) (h64 : slots.length ≤ 64) (hE : opEs 5 a s o = 0) (hS : ∀ w', Below w.heap.size w w' → Calls Try.prog 33 #[.agg #[.int .u32 num, .int .u64 lsn, .int .i64 kind, .string head, .slice AA slots.length cc], .agg #[.int .i64 5, .int .i64 a, .string s, .string o]] w' fun e w'' => e = .returned (.int .i64 0) ∧ Below w'.heap.size w' w'')  (hsz : ∀ x ∈ slots, x.size ≤ 140737488351232) (hhz : (s).size ≤ 140737488351232) :
    Calls Try.prog 11 #[.agg #[.int .u32 num, .int .u64 lsn, .int .i64 kind, .string head, .slice AA slots.length cc], .agg #[.int .i64 5, .int .i64 a, .string s, .string o], .int .u64 l] w (apPost w (finR num l (kind) (s) (slots))) := by
  have HSZ := Lib.hid hsz
  have HHZ := Lib.hid hhz
  clear hsz hhz
  have HA := Lib.hid hA
  have HL := Lib.hid h64
  have HS := Lib.hid hS
  have HE := Lib.hid hE
  clear hA h64 hS hE
  go_enter Try.func11, Try.ntmps11
  go_upto_region 1 with fail
  have hP : Blk (((w.alloc (.cells #[.int .u32 num, .int .u64 lsn, .int .i64 kind, .string head, .slice AA slots.length cc] 28)).alloc (.cells #[.int .i64 5, .int .i64 a, .string s, .string o] 38)).alloc (.cells #[.int .u32 0, .int .u64 0, .int .i64 0, .string ⟨#[]⟩, .slice none 0 0] 28)) w.heap.size 28 #[.int .u32 num, .int .u64 lsn, .int .i64 kind, .string head, .slice AA slots.length cc] := ((Blk.new w 28 #[.int .u32 num, .int .u64 lsn, .int .i64 kind, .string head, .slice AA slots.length cc]).alloc _).alloc _
  have hO : Blk (((w.alloc (.cells #[.int .u32 num, .int .u64 lsn, .int .i64 kind, .string head, .slice AA slots.length cc] 28)).alloc (.cells #[.int .i64 5, .int .i64 a, .string s, .string o] 38)).alloc (.cells #[.int .u32 0, .int .u64 0, .int .i64 0, .string ⟨#[]⟩, .slice none 0 0] 28)) (w.heap.size + 1) 38 #[.int .i64 5, .int .i64 a, .string s, .string o] := by
    have := (Blk.new (w.alloc (.cells #[.int .u32 num, .int .u64 lsn, .int .i64 kind, .string head, .slice AA slots.length cc] 28)) 38 #[.int .i64 5, .int .i64 a, .string s, .string o]).alloc (.cells #[.int .u32 0, .int .u64 0, .int .i64 0, .string ⟨#[]⟩, .slice none 0 0] 28)
    rwa [size_al] at this
  have hZ : Blk (((w.alloc (.cells #[.int .u32 num, .int .u64 lsn, .int .i64 kind, .string head, .slice AA slots.length cc] 28)).alloc (.cells #[.int .i64 5, .int .i64 a, .string s, .string o] 38)).alloc (.cells #[.int .u32 0, .int .u64 0, .int .i64 0, .string ⟨#[]⟩, .slice none 0 0] 28)) (w.heap.size + 2) 28 #[.int .u32 0, .int .u64 0, .int .i64 0, .string ⟨#[]⟩, .slice none 0 0] := by
    have := Blk.new ((w.alloc (.cells #[.int .u32 num, .int .u64 lsn, .int .i64 kind, .string head, .slice AA slots.length cc] 28)).alloc (.cells #[.int .i64 5, .int .i64 a, .string s, .string o] 38)) 28 #[.int .u32 0, .int .u64 0, .int .i64 0, .string ⟨#[]⟩, .slice none 0 0]
    rwa [size_al, size_al] at this
  have hK := balloc (balloc (balloc (Below.refl w.heap.size w) (.cells #[.int .u32 num, .int .u64 lsn, .int .i64 kind, .string head, .slice AA slots.length cc] 28)) (.cells #[.int .i64 5, .int .i64 a, .string s, .string o] 38)) (.cells #[.int .u32 0, .int .u64 0, .int .i64 0, .string ⟨#[]⟩, .slice none 0 0] 28)
  have hN : w.heap.size + 3 ≤ (((w.alloc (.cells #[.int .u32 num, .int .u64 lsn, .int .i64 kind, .string head, .slice AA slots.length cc] 28)).alloc (.cells #[.int .i64 5, .int .i64 a, .string s, .string o] 38)).alloc (.cells #[.int .u32 0, .int .u64 0, .int .i64 0, .string ⟨#[]⟩, .slice none 0 0] 28)).heap.size := by rw [size_al, size_al, size_al]; omega
  have HP := Lib.hid hP
  have HO := Lib.hid hO
  have HZ := Lib.hid hZ
  have HK := Lib.hid hK
  have HN := Lib.hid hN
  clear hP hO hZ hK hN
  generalize ((w.alloc (.cells #[.int .u32 num, .int .u64 lsn, .int .i64 kind, .string head, .slice AA slots.length cc] 28)).alloc (.cells #[.int .i64 5, .int .i64 a, .string s, .string o] 38)).alloc (.cells #[.int .u32 0, .int .u64 0, .int .i64 0, .string ⟨#[]⟩, .slice none 0 0] 28) = w0 at *
  go_upto_region 7 with (first | (refine wpList_load_row rfl 28 (.tmp 3) rfl w.heap.size rfl 28 #[.int .u32 num, .int .u64 lsn, .int .i64 kind, .string head, .slice AA slots.length cc] (0, 0) _ HP.out Try.underlying28 rfl (by kernel_rfl) ?_) | (refine wpList_load_row rfl 38 (.tmp 4) rfl (w.heap.size + 1) rfl 38 #[.int .i64 5, .int .i64 a, .string s, .string o] (0, 0) _ HO.out Try.underlying38 rfl (by kernel_rfl) ?_) | (go_at_call 32; refine (pcheck_str 5 a s o _).mono ?_; rintro e w1 ⟨rfl, hb1⟩; rw [HE.out]; have HP1 := Lib.hid (HP.out.step hb1); have HO1 := Lib.hid (HO.out.step hb1); have HZ1 := Lib.hid (HZ.out.step hb1); have HK1 := Lib.hid (bstep HK.out hb1); have HN1 := Lib.hid (Nat.le_trans HN.out hb1.size); clear HN HK HP HO HZ; have HP := HP1; clear HP1; have HO := HO1; clear HO1; have HZ := HZ1; clear HZ1; have HK := HK1; clear HK1; have HN := HN1; clear HN1; clear hb1) | (go_at_call 33; refine (HS.out _ HK.out).mono ?_; rintro e w1 ⟨rfl, hb1⟩; have HP1 := Lib.hid (HP.out.step hb1); have HO1 := Lib.hid (HO.out.step hb1); have HZ1 := Lib.hid (HZ.out.step hb1); have HK1 := Lib.hid (bstep HK.out hb1); have HN1 := Lib.hid (Nat.le_trans HN.out hb1.size); clear HN HK HP HO HZ; have HP := HP1; clear HP1; have HO := HO1; clear HO1; have HZ := HZ1; clear HZ1; have HK := HK1; clear HK1; have HN := HN1; clear HN1; clear hb1))
  go_upto_region 8 with (first | (refine wpList_load_row rfl 28 (.tmp 3) rfl w.heap.size rfl 28 #[.int .u32 num, .int .u64 lsn, .int .i64 kind, .string head, .slice AA slots.length cc] (0, 0) _ HP.out Try.underlying28 rfl (by kernel_rfl) ?_) | (refine wpList_store_row rfl 28 (.tmp 10) (.tmp 25) rfl w1.heap.size #[.int .u32 num, .int .u64 lsn, .int .i64 kind, .string head, .slice AA slots.length cc] rfl rfl 28 #[.int .u32 0, .int .u64 0, .int .i64 0, .string ⟨#[]⟩, .slice none 0 0] (Blk.new w1 28 #[.int .u32 0, .int .u64 0, .int .i64 0, .string ⟨#[]⟩, .slice none 0 0]) (by kernel_rfl) rfl (by simp [Value.oneCell']) ?_))
  have hX := blk_setRow (cs' := #[.int .u32 num, .int .u64 lsn, .int .i64 kind, .string head, .slice AA slots.length cc]) (Blk.new w1 28 #[.int .u32 0, .int .u64 0, .int .i64 0, .string ⟨#[]⟩, .slice none 0 0])
  have hK := setRow_below (balloc HK.out (.cells #[.int .u32 0, .int .u64 0, .int .i64 0, .string ⟨#[]⟩, .slice none 0 0] 28)) (g := w1.heap.size) HK.out.size #[.int .u32 num, .int .u64 lsn, .int .i64 kind, .string head, .slice AA slots.length cc]
  have hP := blk_setRow_far (HP.out.alloc (.cells #[.int .u32 0, .int .u64 0, .int .i64 0, .string ⟨#[]⟩, .slice none 0 0] 28)) (b := w1.heap.size) #[.int .u32 num, .int .u64 lsn, .int .i64 kind, .string head, .slice AA slots.length cc] (by have := HN.out; omega)
  have hO := blk_setRow_far (HO.out.alloc (.cells #[.int .u32 0, .int .u64 0, .int .i64 0, .string ⟨#[]⟩, .slice none 0 0] 28)) (b := w1.heap.size) #[.int .u32 num, .int .u64 lsn, .int .i64 kind, .string head, .slice AA slots.length cc] (by have := HN.out; omega)
  have hZ := blk_setRow_far (HZ.out.alloc (.cells #[.int .u32 0, .int .u64 0, .int .i64 0, .string ⟨#[]⟩, .slice none 0 0] 28)) (b := w1.heap.size) #[.int .u32 num, .int .u64 lsn, .int .i64 kind, .string head, .slice AA slots.length cc] (by have := HN.out; omega)
  have hN : w1.heap.size + 1 ≤ ((w1.alloc (.cells #[.int .u32 0, .int .u64 0, .int .i64 0, .string ⟨#[]⟩, .slice none 0 0] 28)).setRow w1.heap.size #[.int .u32 num, .int .u64 lsn, .int .i64 kind, .string head, .slice AA slots.length cc]).heap.size := by rw [size_sr, size_al]; omega
  have hN0 := HN.out
  clear HP HO HZ HK HN
  obtain ⟨x0, hx0⟩ : ∃ x, x = w1.heap.size := ⟨_, rfl⟩
  rw [← hx0] at hX hP hO hZ hK hN hN0
  simp only [← hx0]
  have hcl := clone_any (A := AA) (l := slots) cc (rows_bl1 HA.out hK) (by have := HL.out; omega)
  generalize ((w1.alloc (.cells #[.int .u32 0, .int .u64 0, .int .i64 0, .string ⟨#[]⟩, .slice none 0 0] 28)).setRow x0 #[.int .u32 num, .int .u64 lsn, .int .i64 kind, .string head, .slice AA slots.length cc]) = w2 at *
  have HX := Lib.hid hX
  have HP := Lib.hid hP
  have HO := Lib.hid hO
  have HZ := Lib.hid hZ
  have HK := Lib.hid hK
  have HN := Lib.hid hN
  have HN0 := Lib.hid hN0
  have HC := Lib.hid hcl
  have c4 := (pgCells hP).2.2.2.2
  clear hX hP hO hZ hK hN hN0 hcl hx0
  go_upto_region 9 with (go_at_call 34; refine HC.out.mono ?_; rintro e w3 ⟨v, rfl, ho1, hb1⟩; obtain ⟨AV, cv, rfl⟩ := own_sl ho1; have ho1 := own_le ho1 HK.out.size; have HP1 := Lib.hid (HP.out.step hb1); have HO1 := Lib.hid (HO.out.step hb1); have HZ1 := Lib.hid (HZ.out.step hb1); have HX1 := Lib.hid (HX.out.step hb1); have HK1 := Lib.hid (bstep HK.out hb1); have HN1 := Lib.hid (Nat.le_trans HN.out hb1.size); clear HN HK HP HO HZ HX; have HP := HP1; clear HP1; have HO := HO1; clear HO1; have HZ := HZ1; clear HZ1; have HX := HX1; clear HX1; have HK := HK1; clear HK1; have HN := HN1; clear HN1; have HR := Lib.hid ho1; have HB0 := Lib.hid HN0.out; clear hb1 ho1 HC c4; obtain ⟨cx0, cx1, cx2, cx3, cx4⟩ := pgCells HX.out; have fx1 := HX.out.frozen 1; have fx4 := HX.out.frozen 4)
  have hX : Blk ((w3.setCell ⟨x0, 4, none⟩ (.slice AV slots.length cv)).setCell ⟨x0, 1, none⟩ (.int .u64 l)) x0 28 #[.int .u32 num, .int .u64 l, .int .i64 kind, .string head, .slice AV slots.length cv] := (HX.out.set_ 4 (.slice AV slots.length cv)).set_ 1 (.int .u64 l)
  have hP := (HP.out.far (p := ⟨x0, 4, none⟩) (by have := HB0.out; show _ ≠ x0; omega) (.slice AV slots.length cv)).far (p := ⟨x0, 1, none⟩) (by have := HB0.out; show _ ≠ x0; omega) (.int .u64 l)
  have hO := (HO.out.far (p := ⟨x0, 4, none⟩) (by have := HB0.out; show _ ≠ x0; omega) (.slice AV slots.length cv)).far (p := ⟨x0, 1, none⟩) (by have := HB0.out; show _ ≠ x0; omega) (.int .u64 l)
  have hZ := (HZ.out.far (p := ⟨x0, 4, none⟩) (by have := HB0.out; show _ ≠ x0; omega) (.slice AV slots.length cv)).far (p := ⟨x0, 1, none⟩) (by have := HB0.out; show _ ≠ x0; omega) (.int .u64 l)
  have hR := own_set (b := x0) (o := 1) (u := .int .u64 l) (own_set (b := x0) (o := 4) (u := .slice AV slots.length cv) HR.out HX.out (by decide)) (HX.out.set_ 4 _) (by decide)
  have hK := bsetAt (o := 1) (bsetAt (o := 4) HK.out (b := x0) (by have := HB0.out; omega) (.slice AV slots.length cv)) (b := x0) (by have := HB0.out; omega) (.int .u64 l)
  have hN : x0 + 1 ≤ ((w3.setCell ⟨x0, 4, none⟩ (.slice AV slots.length cv)).setCell ⟨x0, 1, none⟩ (.int .u64 l)).heap.size := by simpa using HN.out
  clear HX HP HO HZ HR HK HN HA HS HE cx0 cx1 cx2 cx3 cx4 fx1 fx4
  generalize (w3.setCell ⟨x0, 4, none⟩ (.slice AV slots.length cv)).setCell ⟨x0, 1, none⟩ (.int .u64 l) = w4 at *
  have HX := Lib.hid hX
  have HP := Lib.hid hP
  have HO := Lib.hid hO
  have HZ := Lib.hid hZ
  have HR := Lib.hid hR
  have HK := Lib.hid hK
  have HN := Lib.hid hN
  obtain ⟨co0, co1, co2, co3⟩ := opCells hO
  obtain ⟨cx0, cx1, cx2, cx3, cx4⟩ := pgCells hX
  clear hX hP hO hZ hR hK hN
  have H64 := HL
  have fx3 := HX.out.frozen 3
  go_upto_region 25 with fail
  clear fx3
  have hX : Blk ((w4).setCell ⟨x0, 3, none⟩ (.string s)) x0 28 #[.int .u32 num, .int .u64 l, .int .i64 kind, .string s, .slice AV slots.length cv] := (HX.out.set_ 3 (.string s))
  have hZ := (HZ.out).far (p := ⟨x0, 3, none⟩) (by have := HB0.out; show _ ≠ x0; omega) (.string s)
  have hK := (bsetAt (o := 3) (HK.out) (b := x0) (by have := HB0.out; omega) (.string s))
  have hR := (own_set (b := x0) (o := 3) (u := .string s) (HR.out) (HX.out) (by decide))
  clear HX HZ HK HR HP HO HN HN0 co0 co1 co2 co3 cx0 cx1 cx2 cx3 cx4
  generalize (w4).setCell ⟨x0, 3, none⟩ (.string s) = w5 at *
  have HX := Lib.hid hX
  have HZ := Lib.hid hZ
  have HK := Lib.hid hK
  have HR := Lib.hid hR
  clear hX hZ hK hR
  have hrm := room_any num l kind s slots AV cv w5 (own_rdrows HR.out) H64.out HSZ.out HHZ.out
  have HRm := Lib.hid hrm
  clear hrm
  have hf1 : (485 : Int) - (s).size - slotsN (slots) < 0 → finR num l (kind) (s) (slots) = (0, 0, 0, ⟨#[]⟩, [], 30) := fun h => if_pos h
  have hf2 : ¬ (485 : Int) - (s).size - slotsN (slots) < 0 → finR num l (kind) (s) (slots) = (num, l, kind, s, slots, 0) := fun h => if_neg h
  have HF1 := Lib.hid hf1
  have HF2 := Lib.hid hf2
  clear hf1 hf2
  generalize hrm : (485 : Int) - (s).size - slotsN (slots) = rm at *
  by_cases hr : rm < 0
  · have d5 : decide (rm < 0) = true := by simpa using hr
    go_wp2_with (first | (refine wpList_load_row rfl 28 (.tmp 10) rfl x0 rfl 28 #[.int .u32 num, .int .u64 l, .int .i64 kind, .string s, .slice AV slots.length cv] (0, 0) _ HX.out Try.underlying28 rfl (by kernel_rfl) ?_) | (go_at_call 9; refine HRm.out.mono ?_; rintro e w9 ⟨rfl, hb9⟩; have HX1 := Lib.hid (HX.out.step hb9); have HZ1 := Lib.hid (HZ.out.step hb9); have HR1 := Lib.hid (own_below HR.out hb9); have HK1 := Lib.hid (bstep HK.out hb9); clear HX HZ HR HK hb9; have HX := HX1; have HZ := HZ1; have HR := HR1; have HK := HK1; clear HX1 HZ1 HR1 HK1) | (refine wpList_store_row rfl 28 (.tmp 6) (.tmp 119) rfl (w.heap.size + 2) #[.int .u32 0, .int .u64 0, .int .i64 0, .string ⟨#[]⟩, .slice none 0 0] rfl rfl 28 #[.int .u32 0, .int .u64 0, .int .i64 0, .string ⟨#[]⟩, .slice none 0 0] HZ.out (by kernel_rfl) rfl (by simp [Value.oneCell']) ?_))
    refine bodyPost_ret (v := .tuple #[.agg #[.int .u32 0, .int .u64 0, .int .i64 0, .string ⟨#[]⟩, .slice none 0 0], .int .i64 30]) (by exact results_ct (p := 6) (q := 7) rfl _ _ (w.heap.size + 2) 28 #[.int .u32 0, .int .u64 0, .int .i64 0, .string ⟨#[]⟩, .slice none 0 0] (0, 0) _ rfl (blk_setRow HZ.out) Try.underlying28 rfl (by kernel_rfl)) rfl ?_
    rw [HF1.out hr]
    exact ⟨_, rfl, World.ownsRow_nil _ _ _ _, setRow_below HK.out (by omega) _⟩
  · have d5 : decide (rm < 0) = false := by simpa using hr
    go_wp2_with (first | (refine wpList_load_row rfl 28 (.tmp 10) rfl x0 rfl 28 #[.int .u32 num, .int .u64 l, .int .i64 kind, .string s, .slice AV slots.length cv] (0, 0) _ HX.out Try.underlying28 rfl (by kernel_rfl) ?_) | (go_at_call 9; refine HRm.out.mono ?_; rintro e w9 ⟨rfl, hb9⟩; have HX1 := Lib.hid (HX.out.step hb9); have HZ1 := Lib.hid (HZ.out.step hb9); have HR1 := Lib.hid (own_below HR.out hb9); have HK1 := Lib.hid (bstep HK.out hb9); clear HX HZ HR HK hb9; have HX := HX1; have HZ := HZ1; have HR := HR1; have HK := HK1; clear HX1 HZ1 HR1 HK1) | (refine wpList_store_row rfl 28 (.tmp 6) (.tmp 120) rfl (w.heap.size + 2) #[.int .u32 num, .int .u64 l, .int .i64 kind, .string s, .slice AV slots.length cv] rfl rfl 28 #[.int .u32 0, .int .u64 0, .int .i64 0, .string ⟨#[]⟩, .slice none 0 0] HZ.out (by kernel_rfl) rfl (by simp [Value.oneCell']) ?_))
    refine bodyPost_ret (v := .tuple #[.agg #[.int .u32 num, .int .u64 l, .int .i64 kind, .string s, .slice AV slots.length cv], .int .i64 0]) (by exact results_ct (p := 6) (q := 7) rfl _ _ (w.heap.size + 2) 28 #[.int .u32 num, .int .u64 l, .int .i64 kind, .string s, .slice AV slots.length cv] (0, 0) _ rfl (blk_setRow HZ.out) Try.underlying28 rfl (by kernel_rfl)) rfl ?_
    rw [HF2.out hr]
    exact ⟨_, rfl, own_setRow HR.out HZ.out (by decide), setRow_below HK.out (by omega) _⟩
end Go.Proofs.Ytfegabikfkmepaa
end
section
namespace Go.Proofs.YtfegabikfkmepaaW.PrintLast
open Go.Proofs.YtfegabikfkmepaaW.PrintWords (Aside0)
def needsOf (md : Region.Mode) (o : Oper) : List Nat:=(o.after.toList.filter (fun e=>Region.binds md e)).map (fun e=>e.on)
def clashOf (md : Region.Mode) (ops : Array Oper) (i : Nat) (oi : Oper) : List Nat:=(List.range ops.size).filter fun j=>!(j == i) && match ops[j]? with
 | some oj=>!(oj.after.any (fun e=>Region.binds md e && e.on == i) || oi.apart ops oj)
 | none=>false
def rtab (md : Region.Mode) (ops : Array Oper) : Bool × List (List Nat × List Nat):=(Region.noSelect ops,(List.range ops.size).map fun i=>match ops[i]? with
 | some o=>(needsOf md o,clashOf md ops i o)
 | none=>([],[]))
def readyAt (T : List (List Nat × List Nat)) (l : List Bool) (i : Nat) : Bool:=!l.getD i true && match T[i]? with
 | some r=>r.1.all (fun j=>l.getD j false)
 | none=>false
def readyT (T : List (List Nat × List Nat)) (l : List Bool) : List Nat:=(List.range T.length).filter (readyAt T l)
def freeT (T : List (List Nat × List Nat)) (l : List Bool) (i : Nat) : Bool:=match T[i]? with
 | some r=>r.2.all (fun j=>l.getD j true)
 | none=>false
def closedT (T : List (List Nat × List Nat)) (l : List Bool) : Bool:=(List.range T.length).all fun j=>!l.getD j false || match T[j]? with
 | some r=>r.1.all (fun k=>l.getD k false)
 | none=>true
def reachT (T : List (List Nat × List Nat)) (i : Nat) : Nat → Nat → Bool
 | 0,_=>false
 | fuel + 1,d=>match T[d]? with
  | some r=>r.1.any fun j=>j == i || reachT T i fuel j
  | none=>false
def lastT (T : List (List Nat × List Nat)) (l : List Bool) (ds : List Nat) (i : Nat) : Bool:=ds.all fun d=>l.getD d true || reachT T i T.length d
section
variable {md : Region.Mode} {ops : Array Oper} {T : Bool × List (List Nat × List Nat)} {l l' li lj lk : Array Bool} {ds : List Nat} {i j k : Nat}
theorem gd (l : Array Bool) (j : Nat) (b : Bool) : l.getD j b=l.toList.getD j b:=by simp [Array.getD_eq_getD_getElem?,List.getD_eq_getElem?_getD]
theorem needs_all (o : Oper) (p : Nat → Bool) : o.after.all (fun e=>!Region.binds md e || p e.on)=(needsOf md o).all p:=by
 unfold needsOf
 rw [← Array.all_toList]
 induction o.after.toList with
 | nil=>rfl
 | cons e r ih =>
  rw [List.all_cons,ih,List.filter_cons]
  cases h : Region.binds md e <;> simp
theorem needs_any (o : Oper) (p : Nat → Bool) : o.after.any (fun e=>Region.binds md e && p e.on)=(needsOf md o).any p:=by
 unfold needsOf
 rw [← Array.any_toList]
 induction o.after.toList with
 | nil=>rfl
 | cons e r ih =>
  rw [List.any_cons,ih,List.filter_cons]
  cases h : Region.binds md e <;> simp
theorem rtab_length : (rtab md ops).2.length=ops.size:=by simp [rtab]
theorem rtab_some {o : Oper} (h : ops[i]?=some o) : (rtab md ops).2[i]?=some (needsOf md o,clashOf md ops i o):=by
 have hi:=(Array.getElem?_eq_some_iff.1 h).1
 unfold rtab
 rw [List.getElem?_map,List.getElem?_range hi,Option.map_some,h]
theorem rtab_none (h : ops[i]?=none) : (rtab md ops).2[i]?=none:=by
 have hi : ops.size≤i:=Array.getElem?_eq_none_iff.1 h
 exact List.getElem?_eq_none (by rw [rtab_length];exact hi)
theorem readyAt_eq : readyAt (rtab md ops).2 l.toList i=(!l.getD i true && ((ops[i]?).map (·.after.all fun e=>!Region.binds md e || l.getD e.on false)).getD false):=by
 unfold readyAt
 rw [gd]
 cases h : ops[i]? with
 | none=>rw [rtab_none h];rfl
 | some o =>
  rw [rtab_some h]
  simp only [Option.map_some,Option.getD_some]
  rw [← needs_all]
  simp only [gd]
theorem ready_eq : Region.ready md ops l=readyT (rtab md ops).2 l.toList:=by
 unfold Region.ready readyT
 rw [rtab_length]
 refine List.filter_congr (fun i _=>?_)
 rw [readyAt_eq]
theorem free_eq : Region.free md ops l i=freeT (rtab md ops).2 l.toList i:=by
 unfold Region.free freeT
 cases h : ops[i]? with
 | none=>rw [rtab_none h]
 | some oi =>
  rw [rtab_some h]
  simp only [clashOf]
  rw [List.all_filter]
  congr 1
  funext j
  rw [gd]
  cases hj : ops[j]? with
  | none=>cases (j == i) <;> cases (l.toList.getD j true) <;> simp
  | some oj =>
   cases (j == i) <;> cases (l.toList.getD j true) <;> cases (oj.after.any (fun e=>Region.binds md e && e.on == i) || oi.apart ops oj) <;> simp_all
theorem closed_eq : Region.closedB md ops l=closedT (rtab md ops).2 l.toList:=by
 unfold Region.closedB closedT
 rw [rtab_length]
 congr 1
 funext j
 rw [gd]
 cases h : ops[j]? with
 | none=>rw [rtab_none h]
 | some o =>
  rw [rtab_some h]
  simp only
  rw [← needs_all]
  simp only [gd]
theorem reach_eq : ∀ (fuel d : Nat),Region.reachB md ops i fuel d=reachT (rtab md ops).2 i fuel d
 | 0,_=>rfl
 | fuel + 1,d=>by
  unfold Region.reachB reachT
  cases h : ops[d]? with
  | none=>rw [rtab_none h]
  | some o =>
   rw [rtab_some h]
   simp only
   rw [← needs_any]
   congr 1
   funext e
   rw [reach_eq fuel]
theorem last_eq : Region.lastB md ops l ds i=lastT (rtab md ops).2 l.toList ds i:=by
 unfold Region.lastB lastT
 rw [rtab_length]
 congr 1
 funext d
 rw [gd,reach_eq]
theorem readyAt_mem (h : readyAt T.2 l.toList i=true) (hT : rtab md ops=T) : (Region.ready md ops l).contains i=true:=by
 subst hT
 rw [ready_eq]
 unfold readyT
 rw [List.contains_iff_mem,List.mem_filter,List.mem_range]
 refine ⟨?_,h⟩
 unfold readyAt at h
 rw [Bool.and_eq_true] at h
 cases hq : (rtab md ops).2[i]? with
 | none=>rw [hq] at h;simp at h
 | some r=>exact (List.getElem?_eq_some_iff.1 hq).1
theorem set_of (h : (l.toList.set i true == l'.toList)=true) : (l.setIfInBounds i true == l')=true:=by
 rw [beq_iff_eq] at h ⊢
 apply Array.ext'
 rw [Array.toList_setIfInBounds]
 exact h
def anyT (T : Bool × List (List Nat × List Nat)) (l l' : List Bool) (i : Nat) : Bool:=T.1 && freeT T.2 l i && readyAt T.2 l i && (l.set i true == l')
theorem any_of (hT : rtab md ops=T) (h : anyT T l.toList l'.toList i=true) : anyB md ops l l' i=true:=by
 simp only [anyT,Bool.and_eq_true] at h
 obtain ⟨⟨⟨h1,h2⟩,h3⟩,h4⟩:=h
 have h5:=readyAt_mem h3 hT
 have h6:=set_of h4
 subst hT
 simp only [anyB,Bool.and_eq_true]
 exact ⟨⟨⟨h1,by rw [free_eq];exact h2⟩,h5⟩,h6⟩
def takeT (T : Bool × List (List Nat × List Nat)) (ds : List Nat) (l l' : List Bool) (i : Nat) : Bool:=T.1 && freeT T.2 l i && readyAt T.2 l i && closedT T.2 l && lastT T.2 l ds i && (l.set i true == l')
theorem take_of (hT : rtab md ops=T) (h : takeT T ds l.toList l'.toList i=true) : takeB md ops ds l l' i=true:=by
 simp only [takeT,Bool.and_eq_true] at h
 obtain ⟨⟨⟨⟨⟨h1,h2⟩,h3⟩,h4⟩,h5⟩,h6⟩:=h
 have h7:=readyAt_mem h3 hT
 have h8:=set_of h6
 subst hT
 simp only [takeB,Bool.and_eq_true]
 exact ⟨⟨⟨⟨⟨h1,by rw [free_eq];exact h2⟩,h7⟩,by rw [closed_eq];exact h4⟩,by rw [last_eq];exact h5⟩,h8⟩
theorem one_of (hT : rtab md ops=T) (h : (readyT T.2 l.toList == [i] && l.toList.set i true == l'.toList)=true) : readyB md ops l l' i=true:=by
 simp only [Bool.and_eq_true] at h
 obtain ⟨h1,h2⟩:=h
 subst hT
 simp only [readyB,Bool.and_eq_true]
 exact ⟨by rw [ready_eq];exact h1,set_of h2⟩
theorem done_of (hT : rtab md ops=T) (h : (readyT T.2 l.toList == [])=true) : (Region.ready md ops l == [])=true:=by
 subst hT
 rw [ready_eq]
 exact h
def upM (B : List Nat) (d : Nat) : List Nat → Nat
 | []=>0
 | n :: r=>(2 ^ n ||| (if n < d then B.getD n 0 else 0)) ||| upM B d r
def waitsOk (T : List (List Nat × List Nat)) (B : List Nat) : Bool:=(List.range T.length).all fun d=>match T[d]? with
 | some r=>(B.getD d 0 ||| upM B d r.1) == upM B d r.1
 | none=>false
theorem upM_bit {B : List Nat} {d i : Nat} : ∀ {ns : List Nat},(upM B d ns).testBit i=true → ∃ n ∈ ns,n=i ∨ (n < d∧(B.getD n 0).testBit i=true)
 | [],h=>by simp [upM] at h
 | n :: r,h=>by
  unfold upM at h
  rw [Nat.testBit_or,Nat.testBit_or,Bool.or_eq_true,Bool.or_eq_true] at h
  rcases h with (h|h)|h
  ·rw [Nat.testBit_two_pow] at h
   exact ⟨n,List.mem_cons_self,.inl (by simpa using h)⟩
  ·by_cases hn : n < d
   ·rw [if_pos hn] at h
    exact ⟨n,List.mem_cons_self,.inr ⟨hn,h⟩⟩
   ·rw [if_neg hn] at h
    simp at h
  ·obtain ⟨m,hm,h2⟩:=upM_bit h
   exact ⟨m,List.mem_cons_of_mem _ hm,h2⟩
theorem reach_bit {T : List (List Nat × List Nat)} {B : List Nat} (hB : waitsOk T B=true) : ∀ (fuel d : Nat),d < fuel → d < T.length → (B.getD d 0).testBit i=true → reachT T i fuel d=true
 | 0,d,h,_,_=>by omega
 | fuel + 1,d,h,hd,hb=>by
  have h1:=List.all_eq_true.1 hB d (List.mem_range.2 hd)
  cases hr : T[d]? with
  | none=>rw [hr] at h1;simp at h1
  | some r =>
   rw [hr] at h1
   simp only [beq_iff_eq] at h1
   have h2 : (upM B d r.1).testBit i=true:=by rw [← h1,Nat.testBit_or,hb,Bool.true_or]
   obtain ⟨n,hn,h3⟩:=upM_bit h2
   unfold reachT
   rw [hr]
   simp only
   rw [List.any_eq_true]
   refine ⟨n,hn,?_⟩
   rcases h3 with rfl|⟨h4,h5⟩
   ·simp
   ·rw [reach_bit hB fuel n (by omega) (by omega) h5,Bool.or_true]
def lastW (T : List (List Nat × List Nat)) (B : List Nat) (l : List Bool) (ds : List Nat) (i : Nat) : Bool:=ds.all fun d=>l.getD d true || (decide (d < T.length) && (B.getD d 0).testBit i)
def takeW (T : Bool × List (List Nat × List Nat)) (B : List Nat) (ds : List Nat) (l l' : List Bool) (i : Nat) : Bool:=T.1 && freeT T.2 l i && readyAt T.2 l i && closedT T.2 l && lastW T.2 B l ds i && (l.set i true == l')
theorem take_ofW {B : List Nat} (hT : rtab md ops=T) (hB : waitsOk T.2 B=true) (h : takeW T B ds l.toList l'.toList i=true) : takeB md ops ds l l' i=true:=by
 refine take_of hT ?_
 simp only [takeW,takeT,Bool.and_eq_true] at h ⊢
 obtain ⟨⟨⟨⟨⟨h1,h2⟩,h3⟩,h4⟩,h5⟩,h6⟩:=h
 refine ⟨⟨⟨⟨⟨h1,h2⟩,h3⟩,h4⟩,?_⟩,h6⟩
 unfold lastW at h5
 unfold lastT
 rw [List.all_eq_true] at h5 ⊢
 intro d hd
 have h7:=h5 d hd
 rw [Bool.or_eq_true,Bool.and_eq_true,decide_eq_true_eq] at h7
 rcases h7 with h7|⟨h8,h9⟩
 ·rw [h7,Bool.true_or]
 ·rw [reach_bit hB _ d h8 h8 h9,Bool.or_true]
theorem with_tabW {P : Program} {Q : Exit → Act → World → Prop} {S : World → Prop} {n : Nat} {a : Act} {w : World} {B : List Nat} (hT : rtab md ops=T) (hB : waitsOk T.2 B=true) (h : Aside0 (rtab md ops=T) → Aside0 (waitsOk T.2 B=true) → wpAnyLast P md ops Q S ds n l a w) : wpAnyLast P md ops Q S ds n l a w:=h ⟨hT⟩ ⟨hB⟩
end
def opsIn : Code → Nat → Option (Array Oper)
 | .region id ops _,k=>if id == k then some ops else none
 | .seq a b,k=>match opsIn a k with
  | some o=>some o
  | none=>opsIn b k
 | .cond _ a b,k=>match opsIn a k with
  | some o=>some o
  | none=>opsIn b k
 | .block _ c,k=>opsIn c k
 | .loop c,k=>opsIn c k
 | .scope c,k=>opsIn c k
 | .rangeFunc _ _ a b,k=>match opsIn a k with
  | some o=>some o
  | none=>opsIn b k
 | _,_=>none
def opsOf (f : Func) (k : Nat) : Array Oper:=((f.body.bind fun c=>opsIn c k)).getD #[]
end Go.Proofs.YtfegabikfkmepaaW.PrintLast
end
section
namespace Go.Proofs.YtfegabikfkmepaaW.PrintWords
theorem Reps.one {α : Type} {R : α → List Value → Prop} {ps : List α} {cs : List Value} {p : α} {v : Value} (hp : R p [v]) (h : Reps R 1 ps cs) : Reps R 1 (p :: ps) (v :: cs):=by
 refine ⟨by simp [h.1],fun j q hq=>?_⟩
 cases j with
 | zero =>
  simp only [List.getElem?_cons_zero,Option.some.injEq] at hq
  subst hq
  simpa using hp
 | succ j =>
  simp only [List.getElem?_cons_succ] at hq
  have h1:=h.2 j q hq
  simpa [Nat.mul_one] using h1
end Go.Proofs.YtfegabikfkmepaaW.PrintWords
end
section
namespace Go.Proofs.YtfegabikfkmepaaW.PrintWords
open Go.RowKit
section
variable {P : Program} {ops : Array Oper} {rest : List Oper} {o : Oper} {a : Act} {Q : Exit → Act → World → Prop} {W : World}
theorem gate_guard (hw : Region.wanted o (yielded ops a.tmps)=true) (h : wpList P ops Q ({ o with guard:=none } :: rest) a W) : wpList P ops Q (o :: rest) a W:=by
 have h1 : Region.wanted { o with guard:=none } (yielded ops a.tmps)=true:=rfl
 unfold wpList at h ⊢
 rw [if_pos h1] at h
 rw [if_pos hw]
 exact h
end
end Go.Proofs.YtfegabikfkmepaaW.PrintWords
end
section
namespace Go.Proofs.Ytfegabikfkmepaa.PAp
open Go.RowKit Go.Proofs.YtfegabikfkmepaaW.PrintWords Go.Proofs.YtfegabikfkmepaaW.PrintLast Go.Proofs.YtfegabikfkmepaaW.PrintMore
attribute [local go_sem] max2_int min2_int max_two min_two max_three min_three max_four min_four
set_option linter.unusedVariables false
set_option linter.unusedSimpArgs false
def errW : Option Int → Value
 | none=>.nilIface
 | some c=>.iface 0 (.int .i64 c)
theorem errW_none : errW none=.nilIface:=rfl
theorem errW_some (c : Int) : errW (some c)=.iface 0 (.int .i64 c):=rfl
end Go.Proofs.Ytfegabikfkmepaa.PAp
end
section
namespace Go.Proofs.Ytfegabikfkmepaa.PAp
open Go.RowKit Go.Proofs.YtfegabikfkmepaaW.PrintWords Go.Proofs.YtfegabikfkmepaaW.PrintLast Go.Proofs.YtfegabikfkmepaaW.PrintMore
attribute [local go_sem] max2_int min2_int max_two min_two max_three min_three max_four min_four
set_option linter.unusedVariables false
set_option linter.unusedSimpArgs false
def page_Kind.f (a0 : Int) (a1 : ByteArray) : Option (ByteArray):=(some (([(a0) % 256] : List Int) : List Int)).bind fun y101=>(if (strOfNums y101).size + a1.size≤9223372036854775807 then (some ((strOfNums y101) ++ a1)) else (none))
set_option maxHeartbeats 8000000 in
set_option maxRecDepth 100000 in
theorem page_Kind.calls (a0 : Int) (a1 : ByteArray) (r : ByteArray) (w : World) (h : page_Kind.f a0 a1=some r) :
  Calls Try.prog 49 #[.int .i64 a0,.string a1] w fun e w'=>e=.returned (.string r)∧Below w.heap.size w w':=by
 have HB:=Aside0.mk (Below.refl w.heap.size w)
 have H : ((some (([(a0) % 256] : List Int) : List Int)).bind fun y101=>(if (strOfNums y101).size + a1.size≤9223372036854775807 then (some ((strOfNums y101) ++ a1)) else (none)))=some r:=h
 clear h
 obtain ⟨y101,hy101⟩ : ∃ y_ : List Int,y_=(([(a0) % 256] : List Int)):=⟨_,rfl⟩
 replace H : (if (strOfNums y101).size + a1.size≤9223372036854775807 then (some ((strOfNums y101) ++ a1)) else (none))=some r:=by first|(rw [hy101];with_reducible exact H)|(have H2_:=(Option.bind_some _ _).symm.trans H;rw [hy101];with_reducible exact H2_)|(have H2_:=(Option.bind_some _ _).symm.trans H;with_reducible exact H2_)|with_reducible exact H|(rw [hy101];exact H)|exact H
 have Ny101:=Aside0.mk hy101
 clear hy101
 by_cases c3 : (strOfNums y101).size + a1.size≤9223372036854775807
 ·rw [if_pos c3] at H
  have c3b0:=eq_true c3
  have c3b1 : decide ((strOfNums y101).size + a1.size≤9223372036854775807)=true:=decide_eq_true c3
  try have c3b2 : (9223372036854775807 < (strOfNums y101).size + a1.size)=False:=eq_false (Nat.not_lt.2 c3)
  obtain rfl:=Option.some.inj H
  go_enter Try.func49,Try.ntmps49
  go_wp2_with (first|((with_reducible refine gate_dst (N:=7) rfl ?_);refine Kd.R_lit (Kd.int .u8) _ 5 ?hg (N:=7) ?hd (xs:=([(a0) % 256] : List Int)) (inner:=[.int .u8 ((a0) % 256)]) (ok:=fun _=>True) (okp:=fun _=>True) ?hr ?hp (fun _ hk=>hk) trivial (Below.refl _ _) (Nat.le_refl _) (by simp) ?_;(case hd=>rfl);(case hg=>rfl);(case hr=>first|(go_simp;done)|(go_simp;rfl));(case hp=>exact (Reps.one (show Kd.M (Kd.int .u8) _ _ _ ((a0) % 256) [.int .u8 ((a0) % 256)] from rfl) (Reps.none _ _)));intro v102 w4 ho5 hb hg_ hnew_;clear hg_ hnew_;(first|rw [← Ny101.out] at ho5|(simp only [Int.reduceToNat] at ho5;rw [← Ny101.out] at ho5));have n0_:=Aside0.mk (Kd.R_lower ho5 (below_size (by repeat (first|(with_reducible first|exact HB.out|apply below_alloc|apply pw_below_drewN|apply below_drew1)|exact HB.out))));have n1_:=Aside0.mk (below_step (by repeat (first|(with_reducible first|exact HB.out|apply below_alloc|apply pw_below_drewN|apply below_drew1)|exact HB.out)) hb);clear HB;have HO103:=n0_;have HB:=n1_;clear n0_ n1_;clear hb ho5;have hcv6:=own_string (P:=Try.prog) Try.underlying89 Try.underlying5 Try.underlying9 (Kd.own_of_R HO103.out)))
  go_ret
  exact ⟨by first|rfl|(simp [errW_none,errW_some] <;> rfl)|(simp [*,errW_none,errW_some] <;> rfl),by repeat (first|(with_reducible first|exact HB.out|apply below_alloc|apply pw_below_drewN|apply below_drew1)|exact HB.out)⟩
 ·rw [if_neg c3] at H
  exact absurd H (by simp)
end Go.Proofs.Ytfegabikfkmepaa.PAp
end
