/- The law FnExactFresh, for all data: in the text that is imported. -/
import Derived.Test.YtleeifecdjolhaaTFresh
